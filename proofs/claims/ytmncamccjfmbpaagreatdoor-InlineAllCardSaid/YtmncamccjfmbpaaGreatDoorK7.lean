/- Part 7 of what the proofs of this seat share: the executor, data in memory, walks.
-/
import Derived.Test.YtmncamccjfmbpaaGreatDoorK6
import Derived.Test.YtmncamccjfmbpaaGreatDoorK3
import Derived.Test.YtmncamccjfmbpaaGreatDoorK4
import Derived.Test.YtmncamccjfmbpaaGreatDoorK5
import Derived.Lib.TrailingZeros
set_option linter.all false
set_option maxHeartbeats 8000000
set_option maxRecDepth 100000
namespace Go.V
open Go
def nM:=@Nat.not_lt_zero
def Ae:=@List.mem_or_eq_of_mem_set
def wK:=@List.any_eq_true
def Ct:=@List.length_reverse
def Af:=@List.flatMap_map
def Ag:=@List.map_flatMap
def ER:=@List.pairwise_map
def L4:=@Bool.eq_false_iff
def aau:=@List.getElem_concat_length
def RY:=@decide_eq_true_iff
def RZ:=@List.idxOf_append
def R0:=@List.mem_reverse
def L5:=@Bool.true_or
variable{D0 D:bO}{l:List Nat}{M M' M0 N:List aD}{a:Option Addr}{e f b T n size node:Nat}{Y:gH}{g:cx}{args us vs:List Value}{m':bo}{v:ao}{I J I':aI}{arr:Array Value}{R α:Type}{w w':World}{P:Program}{t:bR}{s:dS}{x:Int}{aw:List Int}{os:aX}{F:List aU}{A:Nat->List Nat}{u:Value}{r:Int×Int}{fS:List (List an)}
inductive vi where
 |cells(l:List ao)(T:Nat)| map (es:List (ao×ao))
noncomputable def Io:fG->Option vi
 | .cells cs T fH=>cs.Ei 0 fH λl=>some (.cells l T)
 | .map es=>some (.map es)| _=>none
noncomputable def readAll(t:be fG):Nat->Nat->Option (List vi)
 |_,0=>some []| id,n+1=>bq (t.get id) none λe=>bq (Io e) none λs=>bq (readAll t (Nat.add id 1) n) none λl=>some (s::l)
def R1(k:Nat):List (ao×ao)->List (ao×ao)
 |[]=>[]| p::l=>(jS k p.1,jS k p.2)::R1 k l
noncomputable def vi.iQ(k:Nat):vi->fG
 | .cells l T=>be.xX (qO k l) .nil 0 λcs=>.cells cs T l.length
 | .map es=>.map (R1 k es)
noncomputable def L6{R:Type}(k:Nat):List vi->Nat->be fG->(be fG->R)->R
 |[],_,t,K=>K t| s::l,id,t,K=>t.nH (some (s.iQ k)) id λt=>L6 k l (Nat.add id 1) t K
noncomputable def R2(v:ao)(L:List vi)(m:bo):Option (ao×bo):=rS m.n λn=>rS (Nat.add n L.length) λfT=>L6 n L n m.t λt=>some (jS n v,⟨t,fT⟩)
def aav{t:be fG}:∀ {n id:Nat} {L:List vi},readAll t id n=some L->L.length=n/\∀ j s,L[j]?=some s->∃ e,t.get (id+j)=some e/\Io e=some s
 |0,id,L,h=>by cases h;exact⟨rfl,by simp⟩
 |n+1,id,L,h=>by
  unfold readAll at h;obtain⟨e,aa,h⟩:=cp h;obtain⟨s,ab,h⟩:=cp h;obtain⟨l,ak,h⟩:=cp h;cases h;obtain⟨a8,ba⟩:=aav ak;refine⟨by simp[a8],λj b3 ai=>?_⟩;cases j with
  |zero=>cases ai;exact⟨e,aa,ab⟩| succ j=>obtain⟨cW,ez,cJ⟩:=ba j b3 (by simpa using ai);refine⟨cW,?_,cJ⟩;rw[<-ez];congr 1;show id+(j+1)=id+1+j;omega
def aaw(k:Nat):∀ (L:List vi) (id:Nat) (t:be fG),∃ bm:be fG,(∀ {R:Type} (K:be fG->R),L6 k L id t K=K bm) /\ ∀ j e,bm.get j=some e->(id<=j/\∃ s,L[j-id]?=some s/\e=s.iQ k)\/((j<id\/id+L.length<=j)/\t.get j=some e)
 |[],id,t=>⟨t,λK=>rfl,λj e h=>.inr ⟨by simp;omega,h⟩⟩
 |s::L,id,t=>by
  obtain⟨t1,aa,ab⟩:=be.o2 (some (s.iQ k)) t id;obtain⟨bm,ak,aJ⟩:=aaw k L (id+1) t1;refine⟨bm,λK=>?_,λj e h=>?_⟩;·unfold L6;rw[aa];exact ak K
  ·rcases aJ j e h with⟨a8,b3,ba,bP⟩ | ⟨a8,ba⟩
   ·refine .inl ⟨by omega,b3,?_,bP⟩;rw[show j-id=(j-(id+1))+1 by omega];simpa using ba
   ·rcases ab j e ba with⟨rfl,bP⟩ | ⟨bP,fr⟩
    ·refine .inl ⟨cc _,s,by simp,?_⟩;cases bP;rfl
    ·refine .inr ⟨?_,fr⟩;simp only[dx];omega
def amI{k:Nat}(dr:∀ id a,D0 id=some a->D (Nat.add id k)=some a){es:List (ao×ao)}{l:List MapEntry}(h:qM D0 es l):qM D (R1 k es) l:=by
 induction h with
 |nil=>exact .nil| cons ae ah t aN=>exact .cons (EQ dr _ ae) (EQ dr _ ah) aN
def aax{k:Nat}:∀ {l:List ao} {i:Nat} {v:ao},(qO k l)[i]?=some v->∃ wJ,l[i]?=some wJ/\v=jS k wJ
 |[],i,v,h=>by simp[qO]at h
 |x::l,0,v,h=>by simp only[qO,List.getElem?_cons_zero,kk]at h;exact⟨x,rfl,h.symm⟩
 |x::l,i+1,v,h=>by simp only[qO,FH]at h;simpa using aax h
def amJ{k:Nat}(dr:∀ id a,D0 id=some a->D (Nat.add id k)=some a){E:Env}(a':∀ x∈M,x∈M'){a:Loc}{e:fG}{s:vi}(h:lC D0 E M a e)(af:Io e=some s):lC D E M' a (s.iQ k):=by
 cases h with
 | @cells cs T fH arr az aa ab ak aJ bB=>
  unfold Io at af;obtain⟨l,a8,ba,bP⟩:=be.Ey cs fH 0 _ _ af;cases bP;obtain⟨bm,ez,cJ⟩:=be.x3 (qO k l) (.nil:be ao) 0;show lC D E M' a (be.xX (qO k l) .nil 0 λcs=>fG.cells cs T l.length);rw[ez,a8];refine .cells arr az (a' _ aa) ab (λi v hi au=>?_) aJ bB;rcases cJ i v au with⟨_,h⟩ | ⟨_,h⟩;·obtain⟨wJ,aG,rfl⟩:=aax (by simpa using h);have:=ba i hi;rw[db,aG]at this;obtain⟨x,f1,f2⟩:=ak i wJ hi this;exact⟨x,f1,EQ dr _ f2⟩
  ·cases h
 |map l clock aa ab=>cases af;exact .map l clock (a' _ aa) (amI dr ab)| loop L aa ab=>cases af| done L aa ab ak=>cases af
def amK(aM:cU Y.P Y.E)(bG:wI Y.P)(ij:Y.P.follows .mixedOrders=true){g:Nat}{args:List ao}{jh:bo}{wJ:ao}{L:List vi}(az:zT ⟨Y.P,Y.E,λ_=>none,λ_ _ _=>none⟩ (lV ⟨Y.P,Y.E,λ_=>none,λ_ _ _=>none⟩ f) g args ⟨.nil,0⟩=some (wJ,jh))(b4:readAll jh.t 0 jh.n=some L)(d':∀ D us,bN D args us->bN (λ_=>none) args us){m:bo}(h:R2 wJ L m=some (v,m'))(hu:bN D args us)(hm:c8 Y D m I M) :
  Spec Y.P g us I M λr I' M'=>∃ bC,D.ext bC m.n/\aT bC v r/\c8 Y bC m' I' M':=by
 have lZ:yd ⟨Y.P,Y.E,λ_=>none,λ_ _ _=>none⟩:=λg vs m v m' h=>by cases h
 have qP:c8 ⟨Y.P,Y.E,λ_=>none,λ_ _ _=>none⟩ (λ_=>none) ⟨.nil,0⟩ I []:=⟨λid e a h bd=>(by cases bd),λid iR e cW a bM h aa bd=>(by cases bd),λid a h=>(by cases h),λg cs h=>(by cases h)⟩;have ar:=(reckon (Y:=⟨Y.P,Y.E,λ_=>none,λ_ _ _=>none⟩) aM bG lZ ij az (d' D us hu) qP).frame (M:=M);refine Spec.qN ar ?_;rintro r I' mf⟨M0,rfl,bn,bp,D0,-,ah,ES⟩;unfold R2 at h;rw[QY,QY]at h;obtain⟨bm,aa,ab⟩:=aaw m.n L m.n m.t;rw[aa]at h;cases h;obtain⟨a8,ba⟩:=aav b4;let bC:bO:=λid=>if id<m.n then D id else D0 (id-m.n)
 have dr:∀ id a,D0 id=some a->bC (Nat.add id m.n)=some a:=λid a a2=>by show(if id+m.n<m.n then D (id+m.n)else D0 (id+m.n-m.n))=some a;rw[bU (by omega),Nat.add_sub_cancel,a2]
 have kP:D.le bC:=λid a a2=>by show(if id<m.n then D id else D0 (id-m.n))=some a;rw[bQ (hm.jQ _ _ a2),a2]
 have lo:∀ id,id<m.n->bC id=D id:=λid hi=>bQ hi;have cX:∀ id,m.n<=id->bC id=D0 (id-m.n):=λid hi=>bU (by omega);have src:∀ id e a,bm.get id=some e->bC id=some a->(m.n<=id/\∃ s dF,e=s.iQ m.n/\jh.t.get (id-m.n)=some dF/\Io dF=some s/\D0 (id-m.n)=some a)\/(id<m.n/\m.t.get id=some e/\D id=some a):=λid e a he a2=>by
  rcases ab id e he with⟨ez,s,cJ,hc⟩ | ⟨ez,cJ⟩;·obtain⟨dF,mq,Ip⟩:=ba _ _ cJ;rw[db]at mq;rw[cX _ ez]at a2;exact .inl ⟨ez,s,dF,hc,mq,Ip,a2⟩
  ·rcases Nat.lt_or_ge id m.n with aV | cA
   ·rw[lo _ aV]at a2;exact .inr ⟨aV,cJ,a2⟩
   ·rw[cX _ cA]at a2;have:=ES.jQ _ _ a2;omega
 refine⟨bC,λid hi=>lo id hi,EQ dr _ ah,⟨λid e a he a2=>?_,λid iR e cW a bM he rf a2 Cd ag=>?_,λid a a2=>?_,hm.qK.mono bp⟩⟩
 ·rcases src id e a he a2 with⟨ez,s,dF,rfl,cJ,hc,mq⟩ | ⟨ez,cJ,hc⟩
  ·exact amJ dr (λx ad=>jr _ ad) (ES.iQ _ _ _ cJ mq) hc
  ·exact(hm.iQ _ _ _ cJ hc).mono kP λx ad _=>ra _ ad
 ·rcases src id e a he a2 with⟨ez,s,dF,rfl,cJ,hc,mq⟩ | ⟨ez,cJ,hc⟩
  ·rcases src iR cW bM rf Cd with⟨R3,b3,amL,rfl,Cu,Iq,R4⟩ | ⟨R3,Cu,Iq⟩
   ·have:=ES.inj _ _ _ _ _ _ cJ Cu mq R4 ag;omega
   ·obtain⟨x,ad,mY⟩:=ES.aq cJ mq;obtain⟨y,aE,R5⟩:=hm.aq Cu Iq;exact(bn x ad y aE (mY.trans (ag.trans R5.symm))).elim
  ·rcases src iR cW bM rf Cd with⟨R3,b3,amL,rfl,Cu,Iq,R4⟩ | ⟨R3,Cu,Iq⟩
   ·obtain⟨x,ad,mY⟩:=ES.aq Cu R4;obtain⟨y,aE,R5⟩:=hm.aq cJ hc;exact(bn x ad y aE (mY.trans (ag.symm.trans R5.symm))).elim
   ·exact hm.inj _ _ _ _ _ _ cJ Cu hc Iq ag
 ·show id<m.n+L.length;rcases Nat.lt_or_ge id m.n with aV | cA
  ·omega
  ·rw[cX _ cA]at a2;have:=ES.jQ _ _ a2;omega
open Go Go.Proofs
def amM(k:Nat):liesAt Tryz.prog Tryz.prog.depth 207 ((k+1)*2/Tryz.prog.cellsOf 207) 0 207 1=true:=by
 have ab:Tryz.prog.cellsOf 207=2:=by kernel_rfl
 have aj:Tryz.prog.depth=(Tryz.prog.depth-1)+1:=by kernel_rfl
 have e2:sameLayout Tryz.prog Tryz.prog.depth 207 207=true:=by kernel_rfl
 have af:rowAt Tryz.prog (sameLayout Tryz.prog Tryz.prog.depth · 207) Tryz.prog.depth 207 (k+1) 0 1=true:=by
  generalize aA:(sameLayout Tryz.prog Tryz.prog.depth · 207)=f;have vT:f 207=true:=by rw[<-aA];exact e2
  rw[aj];unfold rowAt;simp only[ab,vT];simp
 rw[ab,Nat.mul_div_cancel _ (by decide:0<2)];rw[aj];unfold liesAt;rw[af];rfl
def amN(a9 post:List aD)(b:Nat)(v:Value)(k:Nat)(bi:List Value)(af:bi.length=2*k) :
  Spec Tryz.prog 192 [ptr b] I (a9++⟨b,.cells (.pointer none::v::bi).toArray 207 (0,0)⟩::post) λr I' M'=>r=.tuple #[]/\I'=I/\M'=a9++⟨b,.cells (ck (.pointer none::v::bi) 0 [ptr b]).toArray 207 (0,0)⟩::post:=by
 obtain⟨inf,z,hi,fh,_⟩:=(a5 207 _ rfl).inf;refine bZ [] a5 Tryz.func192 rfl rfl rfl ?_;intro B az;have hm:∀ {o:Obj},(⟨b,o⟩:aD)∈a9++⟨b,o⟩::post:=fun {o}=>cE.2 (.inr (.head _));have dj:(Value.pointer none::v::bi).toArray.size=(k+1)*2:=by simp[af];omega
 have ay:liesAt Tryz.prog Tryz.prog.depth 207 ((Value.pointer none::v::bi).toArray.size/Tryz.prog.cellsOf 207) 0 207 1=true:=by rw[dj];exact amM k
 refine aO.mk [.pointer none] (c4 (cs:=.pointer none::v::bi) (k:=0) (n:=1) (T:=207) hm (by simp)) ?_;refine .other (bw.J' a5 rfl (by simp) rfl rfl rfl rfl ?_);refine aZ.mk (λ_=>?_) (λh=>by cases h);refine bw.conv rfl (by simp) rfl (λw hw=>Lib.run_to_unsafe (t:=207) (e:=207) w ⟨b,0,none⟩ (by kernel_rfl) (by kernel_rfl) (j:=inf) (cells:=(Value.pointer none::v::bi).toArray.size) hi (by rw[fh];decide) (Kc hw hm) (by rw[dj];show 0<_;omega)) ?_;refine bc.mk (a9++⟨b,.cells (.pointer none::v::bi).toArray 207 (0,0)⟩::post) [] _ (by simp) (OP _) ?_;rintro v I' M' -⟨rfl,rfl,rfl⟩;refine bw.conv rfl (by simp) rfl (λw hw=>Lib.run_from_unsafe (u:=207) (e:=207) w ⟨b,0,none⟩ (by kernel_rfl) (by kernel_rfl) (j:=inf) (cells:=(Value.pointer none::v::bi).toArray.size) hi (Kc hw (cE.2 (.inl hm))) ay) ?_;refine b2.mk a9 post _ _ (ef _) rfl (by rw[dj];show 0+0+1<=(k+1)*2;omega) rfl ?_;exact⟨_,_,.refl,rfl,rfl,rfl⟩
def amO(a':(⟨b,.cells arr T (0,0)⟩:aD)∈M)(az:arr[0]?=some (ptr b)) :
  Spec Tryz.prog 192 [ptr b] I M λr I' M'=>r=.tuple #[]/\I'=I/\M'=M:=by
 refine bZ [] a5 Tryz.func192 rfl rfl rfl ?_;intro B g5;have af:cM I M ((⟨b,0,none⟩:Addr).add 0) 1 [ptr b]:=by
  obtain⟨l⟩:=arr;cases l with
  |nil=>simp at az| cons x l=>simp only[A',List.getElem?_cons_zero,kk]at az;subst az;exact c4 (cs:=ptr b::l) (k:=0) (n:=1) a' (by simp)
 refine aO.mk [ptr b] af ?_;refine .other (bw.J' a5 rfl (by simp) rfl rfl rfl rfl ?_);refine aZ.mk (λh=>by cases h) (λ_=>?_);refine aO.mk [ptr b] af ?_;refine .other (bw.VQ a5 rfl (by simp) rfl rfl rfl rfl rfl ?_);refine aZ.mk (λh=>by cases h) (λ_=>?_);exact⟨_,_,.refl,rfl,rfl,rfl⟩
def amP{m:bo}{id off:Nat}{cs:be ao}{fH:Nat}{a:Loc}{a9 post:List aD}(hm:c8 Y D m I M)(au:m.t.get id=some (.cells cs T fH))(a2:D id=some a)(aH:a.o=0)(dK:M=a9++⟨a.b,.cells arr T (0,0)⟩::post)(dj:a.o+fH<=arr.size)(ap:∀ i v,i<fH->cs.get i=some v->∃ x,arr[a.o+i]?=some x/\aT D v x)(ae:∀ i,Y.E T=some i->arr.size=a.o+a.c*i.size)(ij:a.c<=maxLen)
  {l:List ao} (ay:bN D l vs) {K:bo->Option R} {r:R} (h:x1 m (.p id off) l K=some r) :
  ∃ m',K m'=some r/\m'.n=m.n/\off+vs.length<=arr.size/\c8 Y D m' I (a9++⟨a.b,.cells (ck arr.toList off vs).toArray T (0,0)⟩::post):=by
 unfold x1 at h;simp only[au]at h;cases ag:(Nat.ble (Nat.add off l.length) fH&&l.all ao.one)with
 |false=>rw[ag]at h;cases h
 |true=>
  rw[ag]at h;simp only[ca]at h;rw[cB]at ag;have z4:off+l.length<=fH:=bJ ag.1;obtain⟨cs',aa,ab⟩:=be.x3 l cs off;rw[aa]at h;obtain⟨bm,ak,aJ⟩:=be.o2 (some (fG.cells cs' T fH)) m.t id;rw[ak]at h;have c2:=ay.len;have js:off+vs.length<=arr.size:=by omega
  refine⟨_,h,rfl,js,?_⟩;have e4:∀ x∈M,x.num≠a.b->x∈a9++⟨a.b,.cells (ck arr.toList off vs).toArray T (0,0)⟩::post:=λx ad aB=>by
   rw[dK]at ad;rcases cE.1 ad with ad | ad;·exact cE.2 (.inl ad)
   ·rcases ee.1 ad with rfl | ad
    ·exact(aB rfl).elim
    ·exact cE.2 (.inr (nJ _ ad))
  refine hm.step (λi e hi=>(aJ i e hi).imp (λq=>⟨q.1,o4 q.2⟩) λq=>q) a2 (bO.le_refl D) (λ_ _=>rfl) hm.jQ (λ_ _ h=>h) (λi e bM bn hi oV x ad aB=>e4 x ad ?_) ?_ ?_;·rw[aB];exact λag=>bn (hm.inj _ _ _ _ _ _ hi au oV a2 ag)
  ·have z5:(ck arr.toList off vs).length=arr.size:=by rw[Rh (by simpa using js)];simp
   refine .cells (ck arr.toList off vs).toArray aH (by simp) (by simp[z5];exact dj) (λi v hi va=>?_) (λi hi=>by simp[z5];exact ae i hi) ij;rw[aH,db];simp only[A'];rw[Zq (by simpa using js)];rcases ab i v va with⟨a8,ba⟩ | ⟨a8,ba⟩;·have aV:=(h5.1 ba).1;rw[bQ ⟨a8,by omega⟩];exact ay.get ba
   ·rw[bU (by omega)];have:=ap i v hi ba;rw[aH,db]at this;simpa using this
  ·intro i e bM bn hi oV ag;exact bn (hm.inj _ _ _ _ _ _ hi au oV a2 ag)
noncomputable def R6(m:bo)(vs:List ao):Option (ao×bo):=match vs with
 |[.p id 0]=>(match m.t.get id with
  |some (.cells cs T fH)=>bW (Nat.beq T 207&&Nat.ble 2 fH) (match cs.get 0 with
   |some .pn=>x1 m (.p id 0) [.p id 0] λm=>some (.t [],m)
   |some (.p iR 0)=>bW (Nat.beq id iR) (some (.t [],m)) none| _=>none) none
  |_=>none)
 |_=>none
def amQ(qp:Y.P=Tryz.prog)(amR:Y.E=qk){m:bo}{vs:List ao}(h:R6 m vs=some (v,m'))(hu:bN D vs us)(hm:c8 Y D m I M) :
  Spec Y.P 192 us I M λr I' M'=>∃ bC,D.ext bC m.n/\aT bC v r/\c8 Y bC m' I' M':=by
 unfold R6 at h;split at h
 ·rename_i id;obtain⟨x,xs,ad,aB,rfl⟩:=hu.kE;obtain rfl:=aB.nI;obtain⟨a,a2,rfl⟩:=ad.ptr;split at h
  ·rename_i cs T fH au;obtain⟨aa,aP⟩:=fU h;clear h;rw[cB]at aa;obtain⟨bs,z4⟩:=aa;obtain rfl:=dQ bs;have z4:=bJ z4;obtain⟨arr,aH,a',ay,ap,ae,ij⟩:=hm.iQ _ _ _ au a2;have dj:=ae _ (by rw[amR];rfl);have dj:arr.size=a.c*2:=by rw[dj,aH,db]
   have aC:Value.pointer (some ⟨a.b,a.o+0,none⟩)=ptr a.b:=by rw[aH];rfl
   split at aP
   ·rename_i za;obtain⟨sg,f',R7⟩:=ap 0 _ (by omega) za;obtain⟨a9,post,dK⟩:=u9 a';obtain⟨c5,ab,ak,aJ,bB⟩:=amP hm au a2 aH dK ay ap ae ij (l:=[.p id 0]) (vs:=[ptr a.b]) (by simp only[bN,aT];exact⟨_,_,⟨a,a2,aC.symm⟩,rfl,rfl⟩) aP;cases ab;rw[aC,qp,dK];obtain⟨l⟩:=arr;have amS:sg=.pointer none:=by simpa only[aT]using R7
    rw[aH]at f'
    match l,f',dj with
    |[],f',_=>simp at f'| [_],_,dj=>simp at dj;omega
    |y::w::bi,f',dj=>
     have aE:y=.pointer none:=by simpa[amS]using f'
     subst aE;have fa:bi.length=2*(a.c-1):=by simp at dj;omega
     refine Spec.qN (amN a9 post a.b w (a.c-1) bi fa) ?_;rintro r I' M'⟨rfl,rfl,rfl⟩;exact⟨D,bO.o6,by simp only[aT,bN];exact⟨[],rfl,rfl⟩,bB⟩
   ·rename_i iR za;obtain⟨ab,uZ⟩:=fU aP;obtain rfl:=dQ ab;cases uZ;obtain⟨sg,f',R7⟩:=ap 0 _ (by omega) za;obtain⟨bM,Cd,rfl⟩:=R7.ptr;rw[a2]at Cd;cases Cd;rw[aC]at f' |-;rw[qp];refine Spec.qN (amO a' (by rw[<-f',aH])) ?_;rintro r I' M'⟨rfl,rfl,rfl⟩;exact⟨D,bO.o6,by simp only[aT,bN];exact⟨[],rfl,rfl⟩,hm⟩
   ·cases aP
  ·cases h
 ·cases h
def lE(I:aI):List aD->aI
 |[]=>I| x::l=>ins (lE I l) x.num x.obj
def L7{I:aI}:∀ {M:List aD} {b:Nat} {o:Obj},lE I M b=some o->I b=some o\/∃ x∈M,x.num=b/\x.obj=o
 |[],b,o,h=>.inl h
 |x::l,b,o,h=>by
  unfold lE ins at h;by_cases e:b=x.num;·subst e;simp only[q0,ca,kk]at h;exact .inr ⟨x,by simp,rfl,h⟩
  ·simp only[hp e,b']at h;rcases L7 h with h | ⟨y,aa,ab,ak⟩
   ·exact .inl h
   ·exact .inr ⟨y,by simp[aa],ab,ak⟩
def aay{I:aI}:∀ {M:List aD} (aB:(M.map (·.num)).Nodup) {x:aD},x∈M->lE I M x.num=some x.obj
 |y::l,aB,x,h=>by
  simp only[cb,kM]at aB;rcases ee.1 h with rfl | h;·unfold lE ins;simp only[q0,ca]
  ·have e:x.num≠y.num:=λe=>aB.1 (cC.2 ⟨x,h,e⟩);unfold lE ins;simp only[hp e,b'];exact aay aB.2 h
def R8{I:aI}:∀ {M:List aD} (aj:∀ x∈M,I x.num=none) {b:Nat} {o:Obj},I b=some o->lE I M b=some o
 |[],aj,b,o,h=>h
 |y::l,aj,b,o,h=>by
  have e:b≠y.num:=λe=>by have:=aj y (by simp);rw[<-e,h]at this;cases this
  unfold lE ins;simp only[hp e,b'];exact R8 (λx ad=>aj x (by simp[ad])) h
def amT(aB:(M.map (·.num)).Nodup)(aj:∀ x∈M,I x.num=none){o:Obj}(h:h6 I M b o):lE I M b=some o:=by
 rcases h with h | ⟨x,aa,rfl,rfl⟩
 ·exact R8 aj h
 ·exact aay aB aa
structure vj(I:aI)(M:List aD)(J:aI):Prop where
 aL:∀ b o,h6 I M b o->J b=some o
 inv:∀ b o,J b=some o->h6 I M b o
def vj.le(h:vj I M J):∀ b o,I b=some o->J b=some o:=λb o ag=>h.aL b o (.inl ag)
def aaz(aa:ey I' M' w')(ab:Kept I [] w I' M' w'):vj I' M' (lE I' M')/\ey (lE I' M') [] w'/\Kept I [] w (lE I' M') [] w':=by
 refine⟨⟨λb o h=>amT aa.cd aa.d h,λb o h=>?_⟩,⟨λb o h=>?_,by simp,by simp,by simp⟩,⟨λb o h=>R8 aa.d (ab.le _ _ h),λb o h=>?_,by simp,ab.dE,ab.out,ab.sz⟩⟩
 ·rcases L7 h with h | ⟨x,a8,ba,bP⟩
  ·exact .inl h
  ·exact .inr ⟨x,a8,ba,bP⟩
 ·rcases L7 h with h | ⟨x,a8,rfl,rfl⟩
  ·exact aa.i _ _ h
  ·exact aa.m _ a8
 ·rcases L7 h with h | ⟨x,a8,rfl,rfl⟩
  ·exact ab.uh _ _ h
  ·rcases ab.vC _ a8 with⟨y,aE,_⟩ | h
   ·cases aE
   ·exact .inr h
def Spec.lE{Q:Value->aI->List aD->Prop}(h:Spec P f args I [] Q):Spec P f args I [] λr J mf=>mf=[]/\(∀ b o,I b=some o->J b=some o)/\∃ I' M',Q r I' M'/\vj I' M' J:=by
 rcases h with⟨aa,ab⟩ | h
 ·refine .inl ⟨aa,λw hw=>?_⟩;refine(ab w hw).mono ?_;rintro e w'⟨v,I',M',aG,a7,cr,ea⟩;obtain⟨a8,ba,bP⟩:=aaz cr ea;exact⟨v,_,[],aG,⟨rfl,bP.le,I',M',a7,a8⟩,ba,bP⟩
 ·refine .inr λw hw=>?_;obtain⟨v,w',I',M',aG,a7,cr,ea⟩:=h w hw;obtain⟨a8,ba,bP⟩:=aaz cr ea;exact⟨v,w',_,[],aG,⟨rfl,bP.le,I',M',a7,a8⟩,ba,bP⟩
noncomputable def Cv{α:Type}(l:List α):be α:=be.xX l .nil 0 id
def aaA{l:List α}{i:Nat}{v:α}(h:(Cv l).get i=some v):l[i]?=some v:=by
 obtain⟨t,aa,ab⟩:=be.x3 l (.nil:be α) 0;unfold Cv at h;rw[aa]at h;rcases ab _ _ h with⟨_,h⟩ | ⟨_,h⟩
 ·simpa using h
 ·cases h
noncomputable def L8:GT:=λg=>bW (Nat.beq g 0) (some (Cv (lq.map (ao.i .i64)))) (bW (Nat.beq g 1) (some (Cv (uL.map ao.s))) (bW (Nat.beq g 2) (some (Cv [.i .i64 0,.i .i64 1,.s [63],.i .i64 0,.i .i64 (-1),.s [42],.i .i64 1,.i .i64 (-1),.s [43]])) (bW (Nat.beq g 3) (some (Cv (eJ.map (ao.i .u8)))) none)))
def R9{f:α->ao}{h:α->Value}(aA:∀ x D,aT D (f x) (h x)){l:List α}{i:Nat}(ah:(Cv (l.map f)).get i=some v):∃ x,(l.map h).toArray[i]?=some x/\∀ D,aT D v x:=by
 have:=aaA ah;rw[iG]at this;cases ad:l[i]? with
 |none=>rw[ad]at this;cases this| some x=>rw[ad]at this;simp only[k8,kk]at this;subst this;exact⟨h x,by simp[ad],aA x⟩
def amU(bs:fQ I eJ):HV L8 I:=by
 intro g cs h;unfold L8 at h;rw[kD,kD,kD,kD]at h;cases aa:Nat.beq g 0 with
 |true=>rw[aa,ca]at h;obtain rfl:=dQ aa;have h:=fw h;subst h;obtain⟨T,f,h⟩:=bs.c;exact⟨_,T,f,h,λi v ah=>R9 (f:=ao.i .i64) (h:=Value.int .i64) (λx D=>by simp only[aT]) ah⟩
 |false=>
 rw[aa,b']at h;cases ab:Nat.beq g 1 with
 |true=>rw[ab,ca]at h;obtain rfl:=dQ ab;have h:=fw h;subst h;obtain⟨T,f,h⟩:=bs.s;exact⟨_,T,f,h,λi v ah=>R9 (f:=ao.s) (h:=λl=>Value.string (strOf l)) (λx D=>by simp only[aT,strOf]) ah⟩
 |false=>
 rw[ab,b']at h;cases ak:Nat.beq g 2 with
 |true=>
  rw[ak,ca]at h;obtain rfl:=dQ ak;have h:=fw h;subst h;obtain⟨T,f,h⟩:=bs.p;refine⟨_,T,f,h,λi v ah=>?_⟩;have ah:=aaA ah;rcases i with _ | _ | _ | _ | _ | _ | _ | _ | _ | i
  all_goals first | (cases ah;exact⟨_,rfl,λD=>by simp only[aT]<;>rfl⟩) | (simp at ah)
 |false=>
 rw[ak,b']at h;cases aJ:Nat.beq g 3 with
 |true=>rw[aJ,ca]at h;obtain rfl:=dQ aJ;have h:=fw h;subst h;obtain⟨_,_,T,f,h⟩:=bs.d;exact⟨_,T,f,h,λi v ah=>R9 (f:=ao.i .u8) (h:=Value.int .u8) (λx D=>by simp only[aT]) ah⟩
 |false=>
 rw[aJ,b']at h;cases h
noncomputable def L9:List UInt8->Nat->Nat->Int
 |[],_,_=>-1| b::l,c,k=>bW (Nat.beq b.toNat c) (Int.ofNat k) (L9 l c (Nat.succ k))
def aaB(c:UInt8):∀ (l:List UInt8) (k:Nat),L9 l c.toNat k=if Lib.indexByte l c=-1 then -1 else Lib.indexByte l c+k
 |[],k=>rfl
 |b::l,k=>by
  have cA:=Lib.indexByte_ge l c;unfold L9 Lib.indexByte;rw[kD];by_cases h:b=c;·subst h;simp
  ·have aa:Nat.beq b.toNat c.toNat=false:=by
    cases ag:Nat.beq b.toNat c.toNat with
    |false=>rfl| true=>exact absurd (UInt8.toNat_inj.1 (dQ ag)) h
   have ab:(b == c)=false:=by simpa using h
   rw[aa,b',ab,aaB c l];simp only[k7,l5];by_cases ak:Lib.indexByte l c=-1;·simp[ak]
   ·have aJ:(Lib.indexByte l c == -1)=false:=by simpa using ak
    rw[aJ,bU ak];simp only[k7,l5];rw[bU (by omega)];omega
def aaC:wI Tryz.prog:=amg (by kernel_rfl)
def aaD:Tryz.prog.follows .mixedOrders=true:=by kernel_rfl
noncomputable def aaE:gH:=⟨Tryz.prog,qk,λ_=>none,λ_ _ _=>none⟩
noncomputable def aaF:List vi:=[.map [(.i .u8 123,.f 284 [] []),(.i .u8 34,.f 285 [] []),(.i .u8 91,.f 286 [] []),(.i .u8 46,.f 287 [] []),(.i .u8 47,.f 306 [] [.p 1 0]),(.i .u8 38,.f 306 [] [.p 2 0]),(.i .u8 33,.f 306 [] [.p 3 0]),(.i .u8 63,.f 306 [] [.p 4 0]),(.i .u8 42,.f 306 [] [.p 5 0]),(.i .u8 43,.f 306 [] [.p 6 0]),(.i .u8 40,.f 306 [] [.p 7 0]),(.i .u8 41,.f 306 [] [.p 8 0]),(.i .u8 60,.f 289 [] []),(.i .u8 62,.f 306 [] [.p 10 0]),(.i .u8 58,.f 306 [] [.p 11 0]),(.i .u8 65,.f 290 [] []),(.i .u8 66,.f 290 [] []),(.i .u8 67,.f 290 [] []),(.i .u8 68,.f 290 [] []),(.i .u8 69,.f 290 [] []),(.i .u8 70,.f 290 [] []),(.i .u8 71,.f 290 [] []),(.i .u8 72,.f 290 [] []),(.i .u8 73,.f 290 [] []),(.i .u8 74,.f 290 [] []),(.i .u8 75,.f 290 [] []),(.i .u8 76,.f 290 [] []),(.i .u8 77,.f 290 [] []),(.i .u8 78,.f 290 [] []),(.i .u8 79,.f 290 [] []),(.i .u8 80,.f 290 [] []),(.i .u8 81,.f 290 [] []),(.i .u8 82,.f 290 [] []),(.i .u8 83,.f 290 [] []),(.i .u8 84,.f 290 [] []),(.i .u8 85,.f 290 [] []),(.i .u8 86,.f 290 [] []),(.i .u8 87,.f 290 [] []),(.i .u8 88,.f 290 [] []),(.i .u8 89,.f 290 [] []),(.i .u8 90,.f 290 [] []),(.i .u8 95,.f 290 [] []),(.i .u8 97,.f 290 [] []),(.i .u8 98,.f 290 [] []),(.i .u8 99,.f 290 [] []),(.i .u8 100,.f 290 [] []),(.i .u8 101,.f 290 [] []),(.i .u8 102,.f 290 [] []),(.i .u8 103,.f 290 [] []),(.i .u8 104,.f 290 [] []),(.i .u8 105,.f 290 [] []),(.i .u8 106,.f 290 [] []),(.i .u8 107,.f 290 [] []),(.i .u8 108,.f 290 [] []),(.i .u8 109,.f 290 [] []),(.i .u8 110,.f 290 [] []),(.i .u8 111,.f 290 [] []),(.i .u8 112,.f 290 [] []),(.i .u8 113,.f 290 [] []),(.i .u8 114,.f 290 [] []),(.i .u8 115,.f 290 [] []),(.i .u8 116,.f 290 [] []),(.i .u8 117,.f 290 [] []),(.i .u8 118,.f 290 [] []),(.i .u8 119,.f 290 [] []),(.i .u8 120,.f 290 [] []),(.i .u8 121,.f 290 [] []),(.i .u8 122,.f 290 [] [])],.cells [.i .u8 3] 5,.cells [.i .u8 4] 5,.cells [.i .u8 5] 5,.cells [.i .u8 6] 5,.cells [.i .u8 7] 5,.cells [.i .u8 8] 5,.cells [.i .u8 9] 5,.cells [.i .u8 10] 5,.cells [.i .u8 11] 5,.cells [.i .u8 12] 5,.cells [.i .u8 13] 5]
def amV:(bq (zT aaE (lV aaE 100000) 273 [] ⟨.nil,0⟩) none λp=>bq (readAll p.2.t 0 p.2.n) none λL=>some (p.1,L))=some (ao.m 0,aaF):=by kernel_rfl
noncomputable def R':lU:=λg vs m=>bW (Nat.beq g 325) (match vs with
 |[.s l,.i .u8 (.ofNat k)]=>bW (Nat.blt k 256) (some (.i .i64 (L9 l k 0),m)) none| _=>none) (bW (Nat.beq g 234) (match vs with
 |[v]=>some (v,m)| _=>none) (bW (Nat.beq g 273) (match vs with
 |[]=>R2 (.m 0) aaF m| _=>none) (bW (Nat.beq g 192) (R6 m vs) none)))
noncomputable def yf:gH:=⟨Tryz.prog,qk,L8,R'⟩
def amW:yd yf:=by
 intro g vs m v m' h D I M us hu hm;change R' g vs m=some (v,m')at h;unfold R' at h;rw[kD]at h;cases aa:Nat.beq g 325 with
 |true=>
  rw[aa,ca]at h;obtain rfl:=dQ aa;split at h
  ·rename_i l k;rw[kD]at h;cases ae:Nat.blt k 256 with
   |false=>rw[ae]at h;cases h
   |true=>
    rw[ae,ca]at h;have iP:k<256:=Nat.blt_eq ▸ ae;cases h;simp only[bN,aT]at hu;obtain⟨x,xs,rfl,⟨y,ys,rfl,rfl,rfl⟩,rfl⟩:=hu;have rJ:(UInt8.ofNat k).toNat=k:=by simp;omega
    have:=VS (I:=I) (M:=M) ⟨l.toArray⟩ (UInt8.ofNat k);rw[rJ]at this;refine Spec.qN this ?_;rintro r I' M'⟨rfl,rfl,rfl⟩;refine⟨D,bO.o6,?_,hm⟩;simp only[aT];have:=aaB (UInt8.ofNat k) l 0;rw[rJ]at this;rw[this];split;·rename_i e;simp[e]
    ·simp
  ·cases h
 |false=>
 rw[aa,b',kD]at h;cases ab:Nat.beq g 234 with
 |true=>
  rw[ab,ca]at h;obtain rfl:=dQ ab;split at h;·cases h;simp only[bN]at hu;obtain⟨x,xs,hu,rfl,rfl⟩:=hu;refine Spec.qN (OP _) ?_;rintro r I' M'⟨rfl,rfl,rfl⟩;exact⟨D,bO.o6,hu,hm⟩
  ·cases h
 |false=>
 rw[ab,b',kD]at h;cases ak:Nat.beq g 273 with
 |true=>
  rw[ak,ca]at h;obtain rfl:=dQ ak;split at h;·obtain⟨⟨wJ,jh⟩,aJ,bB⟩:=cp amV;obtain⟨L,b5,dZ⟩:=cp bB;cases dZ;exact amK (Y:=yf) a5 aaC aaD aJ b5 (λD us h=>by simpa only[bN]using h) h hu hm
  ·cases h
 |false=>
 rw[ak,b',kD]at h;cases aJ:Nat.beq g 192 with
 |true=>rw[aJ,ca]at h;obtain rfl:=dQ aJ;exact amQ rfl rfl h hu hm
 |false=>
 rw[aJ,b']at h;cases h
def amX(bs:fQ I eJ){g:Nat}{args:List ao}(h:zT yf (lV yf f) g args ⟨.nil,0⟩=some (v,m'))(hu:bN (λ_=>none) args us) :
  Spec Tryz.prog g us I [] λr J mf=>mf=[]/\(∀ b o,I b=some o->J b=some o)/\∃ I' M' bC,aT bC v r/\c8 yf bC m' I' M'/\vj I' M' J:=by
 have hm:c8 yf (λ_=>none) ⟨.nil,0⟩ I []:=⟨λid e a h bd=>(by cases bd),λid iR e cW a bM h aa bd=>(by cases bd),λid a h=>(by cases h),amU bs⟩;refine Spec.qN (reckon (Y:=yf) a5 aaC amW aaD h hu hm).lE ?_;rintro r J mf⟨rfl,aa,I',M',⟨bC,-,ab,ak⟩,aJ⟩;exact⟨rfl,aa,I',M',bC,ab,ak,aJ⟩
def amY:∀ {l:List Int} (h:0<l.length),l.headD 0=l[0]
 |a::l,_=>rfl
def n'(ns:List an)(xs:List aU):Bool:=ns.any λd=>decide (d.k=6)&&(decide (d.hi=-1)&&(xs.getD (d.ax.headD 0).toNat bY).z)
def amZ(p:α->Bool)(l:List α)(x:α):(l++[x]).any p=(l.any p||p x):=by simp
def am0{p:α->Bool}{l:List α}{i:Nat}(h:(l.take i).any p=true):l.any p=true:=by rw[wK]at h |-;obtain⟨x,ad,aC⟩:=h;exact⟨x,OE ad,aC⟩
def am1(av:t.ok I)(af:right t=true){xa:Option Addr}{xc:Nat}{xs:List aU}(ad:lT I M0 xa t.n xs):Spec Tryz.prog 162 [t.val,.slice xa t.n xc] I M0 λv I' M'=>v=.bool (n' t.ns xs)/\I'=I/\M'=M0:=by
 refine bZ [] a5 Tryz.func162 rfl rfl rfl ?_;intro B az;have ic:=av.n;have ju:=av.a0.cap;have mY:=ad.n;refine de.inv (ι:=Nat) (λi=>{ bj:=[(1,.val (.slice xa t.n xc)),(8,.val (.slice t.a t.n t.c)),(9,.val (.int .i64 t.n)),(10,.val (.int .i64 i))],cI:=I,c1:=M0 }) (λi=>i<=t.n/\(t.ns.take i).any (λd=>decide (d.k=6)&&(decide (d.hi=-1)&&(xs.getD (d.ax.headD 0).toNat bY).z))=false) (λi=>t.n-i) ?_ ?_
 ·exact⟨0,⟨dz _,rfl⟩,.refl,eE,.nil⟩
 rintro i⟨hi,dY⟩;refine aZ.mk (λh=>?_) (λh=>?_)
 rotate_left
 ·have cA:i=t.n:=by have:¬ (i:Int)<(t.n:Int):=dO h;omega
  rw[ft (by omega)]at dY;refine⟨_,_,.refl,?_,rfl,rfl⟩;rw[n',dY]
 have aV:i<t.n:=by have:(i:Int)<(t.n:Int):=dh h;omega
 have ch:i<t.ns.length:=by omega
 obtain⟨aS,bH,bl⟩:=av.a0.row an.cS aV ch;have aj:=av.ns _ (bx ch);have tC:=DA af ch;have jd:=mm af i ch;have e8:=aj.aL;have iN:(t.ns.take (i+1)).any (λd=>decide (d.k=6)&&(decide (d.hi=-1)&&(xs.getD (d.ax.headD 0).toNat bY).z))=(decide (t.ns[i].k=6)&&(decide (t.ns[i].hi=-1)&&(xs.getD (t.ns[i].ax.headD 0).toNat bY).z)):=by rw[fZ ch,amZ,dY,ur]
 generalize t.ns[i]=d at bl aj tC jd e8 iN;refine bf.mk aS i bH rfl aV ?_;refine aO.mk _ (bl _) ?_;refine cq.mk (λb5=>?_) (λb5=>?_)
 rotate_left
 ·have L':decide (d.k=6)=false:=b5;rw[L']at iN;refine bg.mk _ (cK (i:=i) (by omega)) ?_;exact⟨i+1,⟨⟨aV,iN⟩,by omega⟩,.refl,eE,.nil⟩
 have L':decide (d.k=6)=true:=b5;have au0:d.k=6:=dh L';rw[L',nW]at iN;refine cq.mk (λaa=>?_) (λaa=>?_)
 rotate_left
 ·have tk:decide (d.hi=-1)=false:=aa;rw[tk]at iN;refine bg.mk _ (cK (i:=i) (by omega)) ?_;exact⟨i+1,⟨⟨aV,iN⟩,by omega⟩,.refl,eE,.nil⟩
 have tk:decide (d.hi=-1)=true:=aa;rw[tk,nW]at iN;have lP:0<d.ax.length:=by have:=Xs aj.k.1 tC (by omega);omega
 obtain⟨gg,fs,e'⟩:=aj.a0.one (j:=0) (by omega) lP;have ah:=jd _ (bx lP);have cv:d.ax.headD 0=d.ax[0]:=amY lP;rw[cv]at iN;have ff:d.ax[0].toNat<xs.length:=by omega
 obtain⟨Sa,Sb,mB⟩:=ad.rd _ ff;have au:xs.getD d.ax[0].toNat bY=xs[d.ax[0].toNat]:=by simp[bz,ff]
 rw[au]at iN;refine bf.mk gg 0 fs rfl (by omega) ?_;refine aO.mk _ (e' _) ?_;refine bf.mk Sa d.ax[0].toNat Sb (by omega) (by omega) ?_;refine aO.mk _ (mB.part (k:=0) (m:=1) (by decide)) ?_;refine aZ.mk (λbb=>?_) (λbb=>?_)
 ·have g4:xs[d.ax[0].toNat].z=true:=bb;refine⟨_,_,.refl,?_,rfl,rfl⟩;rw[n',am0 (i:=i+1) (by rw[iN,g4])]
 ·have g4:xs[d.ax[0].toNat].z=false:=bb;rw[g4]at iN;refine bg.mk _ (cK (i:=i) (by omega)) ?_;exact⟨i+1,⟨⟨aV,iN⟩,by omega⟩,.refl,eE,.nil⟩
def dS.mark(s:dS)(i k:Nat):dS:=⟨s.n,s.m.set i (s.m.getD i 0 ||| lA k),s.w⟩
def kG(b:Nat)(s:dS):aD:=⟨b,.cells s.cells.toArray 158 (0,0)⟩
def dS.cS(s:dS):s.cells.length=66:=by simp[dS.cells,tM]
def am2(a':kG b s∈M){j:Nat}(ai:j<64):cM I M (((⟨b,0,none⟩:Addr).add 1).add (j*1)) 1 [o3 (s.m.getD j 0)]:=by rw[eP (⟨b,0,none⟩:Addr) rfl,eP _ rfl];refine⟨rfl,_,_,_,.inr ⟨_,a',rfl,rfl⟩,?_,rfl⟩;simp only[db,e0];show(s.cells.drop (1+j)).take 1=_;rw[dS.cells,C4 1 j,Hv,PW (by rw[tM];omega),eR (by rw[tM];exact ai),mU,qb,re];simp[k3]
def am3(ar:s.m.length=64){i k:Nat}(hi:i<64):ck s.cells (0+1+i*1) [o3 (s.m.getD i 0 ||| lA k)]=(s.mark i k).cells:=by
 unfold dS.cells dS.mark;simp only;have aG:ck (Value.int .i64 s.n::(k3 s.m++[o3 s.w])) (0+1+i*1) [o3 (s.m.getD i 0 ||| lA k)]=Value.int .i64 s.n::(ck (k3 s.m) (0+i*1) [o3 (s.m.getD i 0 ||| lA k)]++[o3 s.w]):=by have h:=Y5 [Value.int .i64 s.n] (k3 s.m) [o3 s.w] i [o3 (s.m.getD i 0 ||| lA k)] (by rw[tM];show i+1<=64;omega);simp only[pL,rL,dx,fL,db,e0]at h |-;exact h
 rw[aG,Ze s.m ar i hi]
def b2.am4{x y:Nat}{K:List aD->Prop}(a9 post:List aD)(cs:List Value)(T:Nat)(a':M=a9++⟨b,.cells cs.toArray T (0,0)⟩::post)(ag:0+x+y+vs.length<=cs.length)(aa:gm vs=true)
  (cs':List Value) (he:ck cs (0+x+y) vs=cs') (h:K (a9++⟨b,.cells cs'.toArray T (0,0)⟩::post)):b2 M (((⟨b,0,none⟩:Addr).add x).add y) vs K:=by
 rw[eP (⟨b,0,none⟩:Addr) rfl,eP _ rfl];exact b2.rO a9 post cs.toArray T a' rfl (by rw[nE];simpa using ag) aa cs' he h
def am5{M1:List aD}(au:g.ok I){nm:ByteArray}{k:Nat}(ae:ct nm g.ds 0=k)(Sc:k<64){b1 b6 b7 i:Nat}(hi:i<64)(ar:s.m.length=64)(aa:(⟨b1,.cells #[.slice g.a g.n g.c] 24 (0,0)⟩:aD)∈M1)(dZ:(⟨b7,.cells #[.int .i64 i] 3 (0,0)⟩:aD)∈M1) :
  Spec Tryz.prog 161 [.string nm,ptr b1,ptr b6,ptr b7] I (kG b6 s::M1) λv I' M'=>I'=I/\M'=kG b6 (s.mark i k)::M1:=by
 refine bZ [] a5 Tryz.func161 rfl rfl rfl ?_;intro B az;refine aO.mk [.slice g.a g.n g.c] ⟨rfl,_,_,_,.inr ⟨_,.tail _ aa,rfl,rfl⟩,rfl,rfl⟩ ?_;have aA:Spec Tryz.prog 31 [g.val,.string nm] I (kG b6 s::M1) λv I' M'=>v=.int .i64 k/\I'=I/\M'=kG b6 s::M1:=by refine Spec.qN (Spec.frame (GX au nm)) ?_;rintro v J M⟨M',rfl,-,-,rfl,rfl,rfl⟩;rw[ae];exact⟨rfl,rfl,rfl⟩
 refine bc.whole _ aA ?_;rintro v J N -⟨rfl,bk,iD⟩;subst J;subst N;refine aZ.mk (λ_=>?_) (λh=>?_)
 rotate_left
 ·have:¬ (0:Int)<=(k:Int):=dO h;omega
 refine cY.draw a5 rfl rfl rfl ?_;refine aO.mk [.int .i64 i] ⟨rfl,_,_,_,.inr ⟨_,.tail _ dZ,rfl,rfl⟩,rfl,rfl⟩ ?_;refine eD.mk i rfl hi ?_;refine aO.mk _ (am2 (.head _) hi) ?_;refine w7.mk k rfl ?_;refine bg.mk _ (Q7 Sc) ?_;refine eD.mk i rfl hi ?_;refine b2.am4 [] M1 s.cells _ rfl ?_ rfl (s.mark i k).cells ?_ ?_
 ·rw[dS.cS];show 0+1+i*1+1<=66;omega
 ·show ck s.cells (0+1+i*1) [Value.int .u64 (EB (s.m.getD i 0).toNat (lA k).toNat)]=_;rw[LD];exact am3 ar hi
 exact⟨_,_,.refl,rfl,rfl⟩
section
end
structure am6(d:an)(n:Int):Prop where
 z:d.k=0->d.t=⟨#[]⟩
 leaf:d.k<=3->n=0
 one:6<=d.k->n=1
 two:d.k=4\/d.k=5->2<=n
def aaG{d:an}{n:Int}(az:0<=d.k)(h:fits d n=true):am6 d n:=by
 have ar:=(OV h).k;have ae:d.k=0\/d.k=1\/d.k=2\/d.k=3\/d.k=4\/d.k=5\/d.k=6\/d.k=7\/d.k=8\/d.k=9:=by omega
 have d':∀ j:Fin 10,uC j.val=lq.getD (j.val*2) 0/\sk j.val=lq.getD (j.val*2+1) 0:=by decide
 unfold fits at h;rcases ae with e | e | e | e | e | e | e | e | e | e<;>rw[e]at h<;>simp[uC,sk,lq]at h <;>
  refine⟨λq=>?_,λq=>?_,λq=>?_,λq=>?_⟩<;>first | (omega;done) | (exact h.2.2.1;done) | (exact h.2.1;done) | (simp_all;done)
def aaH(nm:ByteArray):∀ (ds:List aQ) (i:Nat),ct nm ds i=bif decide (ct nm ds 0<0)then -1 else ct nm ds 0+i
 |[],i=>rfl
 |d::ds,i=>by
  unfold ct;cases h:decide (d.name=nm)with
  |true=>
   have:decide ((((0:Nat):Int))<0)=false:=by decide
   simp[this]
  |false=>
   rw[b',b',aaH nm ds (i+1),aaH nm ds (0+1)];have af:ct nm ds 0<0\/0<=ct nm ds 0:=by omega
   rcases af with af | af;·rw[fu af];rfl
   ·have e:decide (ct nm ds 0<0)=false:=eB (by omega);rw[e,b',b'];have a7:decide (ct nm ds 0+((0+1:Nat):Int)<0)=false:=eB (by omega);rw[a7,b'];omega
def aaI(nm:ByteArray)(ar bK:List aQ):ct nm (ar++bK) 0=bif decide (ct nm ar 0<0)then ct nm bK ar.length else ct nm ar 0:=by
 have key:∀ (ar:List aQ) (i:Nat),ct nm (ar++bK) i=bif decide (ct nm ar i<0)then ct nm bK (i+ar.length)else ct nm ar i:=by
  intro ar
  induction ar with
  |nil=>intro i;simp[ct]
  |cons d ar aN=>
   intro i;rw[mU,ct,ct];cases decide (d.name=nm)with
   |true=>have:decide ((i:Int)<0)=false:=eB (by omega);rw[ca,ca,this,b']| false=>rw[b',b',aN (i+1),dx];rw[show i+1+ar.length=i+(ar.length+1)from by omega]
 have:=key ar 0;rwa [db]at this
structure ET(ar:List aQ)(a6:List (ByteArray×Int)):Prop where
 look:∀ nm,(ev nm a6).isSome=decide (0<=ct nm ar 0)
def aaJ(nm:ByteArray)(p:ByteArray×Int):∀ a6:List (ByteArray×Int),(ev nm (a6++[p])).isSome=((ev nm a6).isSome||decide (nm=p.1))
 |[]=>by
  show(bif decide (nm=p.1)then some p.2 else none:Option Int).isSome=_;cases decide (nm=p.1)<;>rfl
 |q::a6=>by
  rw[mU,ev,ev];cases decide (nm=q.1)with
  |true=>rfl| false=>rw[b',b',aaJ nm p a6]
def ET.snoc{ar:List aQ}{a6:List (ByteArray×Int)}(h:ET ar a6)(d:aQ)(v:Int):ET (ar++[d]) (a6++[(d.name,v)]):=by
 refine⟨λnm=>?_⟩;rw[aaJ,h.look,aaI];by_cases af:ct nm ar 0<0
 ·rw[fu af,ca,eB (by omega:¬ 0<=ct nm ar 0),ur];unfold ct;have:decide (d.name=nm)=decide (nm=d.name):=decide_eq_decide.2 ⟨Eq.symm,Eq.symm⟩;rw[this];cases decide (nm=d.name)with
  |true=>simp| false=>rw[b'];rfl
 ·rw[eB af,b',fu (by omega:0<=ct nm ar 0),L5]
def m7(ds:List aQ)(i:Nat):Bool:=match ds[i]? with
 |some d=>decide (ct d.name ds 0=i)| none=>true
def am7(d:aQ)(bK:List aQ)(i:Nat):ct d.name (d::bK) i=i:=by rw[ct,fu rfl];rfl
def am8(bK:List aQ):∀ (ar:List aQ) (a6:List (ByteArray×Int)),ET ar a6->(∀ i,i<ar.length->m7 (ar++bK) i=true) ->
  match lS a6 ar.length bK with
  |none=>∃ i,i<(ar++bK).length/\m7 (ar++bK) i=false/\∀ k,k<i->m7 (ar++bK) k=true| some r=>ET (ar++bK) r/\∀ i,i<(ar++bK).length->m7 (ar++bK) i=true:=by
 induction bK with
 |nil=>intro ar a6 h aA;rw[ef]at *;exact⟨h,aA⟩
 |cons d bK aN=>
  intro ar a6 h aA;have fb:(ar++d::bK)[ar.length]?=some d:=by simp
  have lb:m7 (ar++d::bK) ar.length=!(ev d.name a6).isSome:=by
   unfold m7;rw[fb,h.look];simp only;rw[aaI];by_cases af:ct d.name ar 0<0;·rw[fu af,ca,am7];simp;omega
   ·rw[eB af,b'];have aV:ct d.name ar 0<ar.length:=by
     have:∀ (ar:List aQ) (i:Nat),0<=ct d.name ar i->ct d.name ar i<i+ar.length:=by
      intro ar
      induction ar with
      |nil=>intro i h;simp[ct]at h
      |cons e ar Sd=>
       intro i h;unfold ct at h |-;cases ap:decide (e.name=d.name)with
       |true=>simp;omega| false=>rw[ap,b']at h;rw[b'];have:=Sd (i+1) h;simp;omega
     have:=this ar 0 (by omega);omega
    have aG:decide (ct d.name ar 0=(ar.length:Int))=false:=eB (by omega);have a7:decide (0<=ct d.name ar 0)=true:=fu (by omega);rw[aG,a7];rfl
  rw[lS];cases ay:(ev d.name a6).isSome with
  |true=>rw[ay]at lb;exact⟨ar.length,by simp,lb,aA⟩
  |false=>
   rw[ay]at lb;have:=aN (ar++[d]) (a6++[(d.name,(ar.length:Int))]) (h.snoc d _) (λi hi=>by
    rw[dT];simp at hi;rcases Nat.lt_or_eq_of_le (Nat.lt_succ_iff.1 (by omega:i<ar.length+1))with aa | aa;·exact aA i aa
    ·rw[aa];exact lb)
   rw[cm,dT]at this;exact this
def am9:ET [] []:=⟨λnm=>by simp[ev,ct]⟩
def yg(ds:List aQ)(n:an):Bool:=!decide (n.k=3)||decide (0<=ct n.t ds 0)
def aaK(p:an->Bool):∀ (ds:List aQ) (i:Nat),((qz i ds).all λx=>p x.2)=ds.all λd=>d.t.ns.all p
 |[],i=>rfl| d::ds,i=>by rw[qz,Gw,w4,aaK p ds (i+1),K0];rfl
def Ir(aw:List Int)(g:cx):Int:=
 bif decide ((g.n:Int)=0)then 4 else bif !nF g.ds then 4 else bif oN aw g then 40 else
 bif !(List.range g.ds.length).all (m7 g.ds)then 6 else bif g.ds.all λd=>d.t.ns.all (yg g.ds)then 0 else 41
def Se(aw:List Int)(g:cx):Ir aw g=dm aw g:=by
 unfold Ir dm;have h:=am8 g.ds [] [] am9 (λi hi=>by simp at hi);simp only[fL,iq]at h;cases aj:lS [] 0 g.ds with
 |none=>
  rw[aj]at h;obtain⟨i,aa,ab,_⟩:=h;have:(List.range g.ds.length).all (m7 g.ds)=false:=by rw[L4];intro gq;rw[fx]at gq;have:=gq i (g'.2 aa);rw[ab]at this;cases this
  rw[this];rfl
 |some a6=>
  rw[aj]at h;obtain⟨aa,ab⟩:=h;have ak:(List.range g.ds.length).all (m7 g.ds)=true:=by rw[fx];intro i hi;exact ab i (g'.1 hi)
  rw[ak];have aJ:(g.ds.all λd=>d.t.ns.all (yg g.ds))=rF a6 g.ds:=by unfold rF;rw[aaK];congr 1;funext d;congr 1;funext n;unfold zu yg;rw[aa.look]
  rw[aJ];rfl
def ana{ds:List aQ}{i:Nat}(h:i<ds.length):m7 ds i=decide (ct ds[i].name ds 0=i):=by unfold m7;rw[da h]
def aaL(nm:ByteArray):∀ (ds:List aQ) (i:Nat),xS nm ds i=bif decide (ct nm ds i<0)then none else some (ct nm ds i)
 |[],i=>rfl
 |d::ds,i=>by
  unfold xS ct;rw[show decide (nm=d.name)=decide (d.name=nm) by rw[r6];simp[eq_comm]];cases decide (d.name=nm)with
  |true=>rw[ca,ca,eB (by omega)];rfl| false=>rw[b',b'];exact aaL nm ds (i+1)
def aaM(nm:ByteArray)(ds:List aQ):ev nm (bD ds)=bif decide (ct nm ds 0<0)then none else some (ct nm ds 0):=by rw[PU,aaL]
def aaN{nm:ByteArray}{ds:List aQ}(h:(ev nm (bD ds)).isSome=true):∃ q:Nat,ct nm ds 0=q/\q<ds.length/\((ev nm (bD ds)).getD 0).toNat=q:=by
 have kt:=aaM nm ds;cases aj:decide (ct nm ds 0<0)with
 |true=>rw[aj,ca]at kt;rw[kt]at h;cases h| false=>rw[aj,b']at kt;have aJ:¬ ct nm ds 0<0:=dO aj;obtain⟨q,aP⟩:=eA (by omega:0<=ct nm ds 0);have aaO:=kt;rw[PU]at aaO;obtain⟨j,J2,ti⟩:=PV aaO;refine⟨q,aP,by omega,?_⟩;rw[kt,aP];rfl
def dS.marks(s:dS)(i:Nat)(l:List Nat):dS:=l.foldl (λs k=>s.mark i k) s
def dS.aaP(s:dS)(i:Nat)(l m:List Nat):s.marks i (l++m)=(s.marks i l).marks i m:=rE
def dS.EU:∀ (l:List Nat) (s:dS) (i:Nat),(s.marks i l).m.length=s.m.length
 |[],s,i=>rfl| k::l,s,i=>by have:=dS.EU l (s.mark i k) i;unfold dS.marks at this |-;rw[jn,this];simp[dS.mark]
def Sf(b1 b6 b7:Nat):Value:=.func (.func 161) #[] #[ptr b1,ptr b6,ptr b7]
def aaQ{I:aI}{g:cx}(au:g.ok I)(lF:g.n<=64){t:bR}(av:t.ok I)(l0:u7 t)(af:right t=true)(dY:wi (bD g.ds) t.ns=true){F:List aU}{M1:List aD}{b1 b6 b7 i:Nat}(hi:i<64)(aa:(⟨b1,.cells #[.slice g.a g.n g.c] 24 (0,0)⟩:aD)∈M1)(dZ:(⟨b7,.cells #[.int .i64 i] 3 (0,0)⟩:aD)∈M1){xa:Option Addr}{xc:Nat}(ad:lT I M1 xa t.n (eo (bD g.ds) F t.ns [])) : ∀ (m j:Nat),j<m->∀ (ai:j<t.ns.length) (s:dS) (ar:s.m.length=64),Spec Tryz.prog 160 [t.val,.slice xa t.n xc,.int .i64 j,Sf b1 b6 b7] I (kG b6 s::M1) λv I' M'=>I'=I/\M'=kG b6 (s.marks i (ga (bD g.ds) F t.ns j).2)::M1
 |0,j,h,_,_,_=>absurd h (nM _)
 |m+1,j,aaR,ai,s,ar=>by
  have aN:=aaQ (b6:=b6) (xc:=xc) au lF av l0 af dY hi aa dZ ad m;have ic:=av.n;have fM:=au.n;have gr:=bx ai;have aj:=av.ns _ gr;have e8:=aj.aL;have Sg:=l0 _ gr;have js:=DA af ai;have Sh:=aaG aj.k.1 js;have jd:=mm af j ai;have h9:=fx.1 dY _ gr;have bp:=Qd (pl:=bD g.ds) (F:=F) af ai;have hl:=Hp (bD g.ds) F t.ns [];simp only[fL,db]at hl;obtain⟨aS,bH,bl⟩:=av.a0.row an.cS (show j<t.n by omega) ai;have v3:(ga (bD g.ds) F t.ns j).2=kb (bD g.ds) t.ns[j] (t.ns[j].ax.map (ga (bD g.ds) F t.ns)):=by rw[bp];rfl
  rw[v3];clear bp v3;have Ah:∀ q (h:q<t.ns[j].ax.length),∃ k:Nat,t.ns[j].ax[q]=k/\k<j:=λq h=>by have:=jd _ (bx h);exact⟨t.ns[j].ax[q].toNat,by omega,by omega⟩
  generalize t.ns[j]=d at *;refine bZ [] a5 Tryz.func160 rfl rfl rfl ?_;intro B az;refine bf.mk aS j bH rfl (by omega) ?_;refine aO.mk _ (bl _) ?_;refine aZ.mk (λe=>?_) (λcr=>?_);·have e:d.k=3:=dh e;obtain⟨q,BW,uZ,Is⟩:=aaN (nm:=d.t) (ds:=g.ds) (by simpa[e]using h9);refine bc.whole _ (am5 au BW (by omega) hi ar aa dZ) ?_;rintro v J N -⟨bk,iD⟩;subst J;subst N;refine⟨_,_,.refl,rfl,?_⟩;rw[kb,fu e,ca,Is];rfl
  have cr:¬ d.k=3:=dO cr;refine aZ.mk (λe=>?_) (λea=>?_)
  ·have e:d.k=4:=dh e;have Cw:kb (bD g.ds) d (d.ax.map (ga (bD g.ds) F t.ns))=jO (d.ax.map (ga (bD g.ds) F t.ns)):=by rw[kb,eB cr,fu e];rfl
   rw[Cw];refine de.inv (ι:=Nat×dS) (λx=>{ bj:=[(1,.val (.slice xa t.n xc)),(3,.val (Sf b1 b6 b7)),(4,.ref 4 0),(42,.val (.slice d.dy d.aL d.dq)),(43,.val (.int .i64 d.aL)),(44,.val (.int .i64 x.1))],cl:=[(4,t.cells)],cI:=I,c1:=kG b6 x.2::M1 }) (λx=>x.1<=d.aL/\x.2.m.length=64/\s.marks i (jO (d.ax.map (ga (bD g.ds) F t.ns)))=x.2.marks i (jO ((d.ax.drop x.1).map (ga (bD g.ds) F t.ns)))) (λx=>d.aL-x.1) ?_ ?_;·exact⟨(0,s),⟨dz _,ar,rfl⟩,.refl,ov,.cons rfl (.nil)⟩
   rintro⟨q,b3⟩⟨aP,om,et⟩;simp only at aP om et;refine aZ.mk (λh=>?_) (λh=>?_)
   rotate_left
   ·have cA:d.ax.length<=q:=by have:¬ (q:Int)<(d.aL:Int):=dO h;omega
    rw[u0 cA]at et;refine⟨_,_,.refl,rfl,?_⟩;rw[et];rfl
   have aV:q<d.aL:=by have:(q:Int)<(d.aL:Int):=dh h;omega
   have ch:q<d.ax.length:=by omega
   obtain⟨gg,fs,e'⟩:=aj.a0.one aV ch;obtain⟨k,ae,It⟩:=Ah q ch;rw[ae]at e';have aaS:k<(eo (bD g.ds) F t.ns []).length:=by omega
   obtain⟨Sa,Sb,mB⟩:=ad.rd k aaS;have hB:(d.ax.drop q).map (ga (bD g.ds) F t.ns)=ga (bD g.ds) F t.ns k::(d.ax.drop (q+1)).map (ga (bD g.ds) F t.ns):=by rw[eR ch,cb,ae]
   have mZ:(ga (bD g.ds) F t.ns k).1=(eo (bD g.ds) F t.ns [])[k]:=by rw[Qe];simp[bz,aaS]
   rw[hB,jO,mZ,dS.aaP]at et;refine bf.mk gg q fs rfl aV ?_;refine aO.mk _ (e' _) ?_;refine bc.whole _ (aN k (by omega) (by omega) b3 om) ?_;rintro v J N -⟨bk,iD⟩;subst J;subst N;refine bf.mk Sa k Sb rfl (by omega) ?_;refine aO.mk _ ((mB.sub λx ad=>.tail _ ad).part (k:=0) (m:=1) (by decide)) ?_;refine aZ.mk (λbb=>?_) (λbb=>?_)
   ·have g4:(eo (bD g.ds) F t.ns [])[k].z=false:=by simpa using bb
    rw[g4]at et;refine⟨_,_,.refl,rfl,?_⟩;rw[et];rfl
   ·have g4:(eo (bD g.ds) F t.ns [])[k].z=true:=by simpa using bb
    rw[g4]at et;refine bg.mk _ (cK (i:=q) (by omega)) ?_;exact⟨(q+1,b3.marks i (ga (bD g.ds) F t.ns k).2),⟨⟨aV,by rw[dS.EU];exact om,et⟩,by simp only;omega⟩,.refl,ov,.cons rfl (.nil)⟩
  have ea:¬ d.k=4:=dO ea;refine aZ.mk (λe=>?_) (λlY=>?_)
  ·have e:d.k=6:=dh e;have anb:=Sh.one (by omega);have lP:0<d.ax.length:=by omega
   refine aZ.mk (λcv=>?_) (λcv=>?_)
   ·have A2:decide (d.hi=0)=false:=by have A1:(!decide (d.hi=0))=true:=cv;simpa using A1
    obtain⟨gg,fs,e'⟩:=aj.a0.one (j:=0) (by omega) lP;obtain⟨k,ae,It⟩:=Ah 0 lP;rw[ae]at e';have Cw:kb (bD g.ds) d (d.ax.map (ga (bD g.ds) F t.ns))=(ga (bD g.ds) F t.ns k).2:=by
     have fc:d.ax=[(k:Int)]:=by
      match ad:d.ax,lP,anb,ae with
      |[a],_,_,ae=>simp only[uq]at ae;rw[ae]| _::_::_,_,h,_=>simp at h;omega
     rw[kb,eB cr,eB ea,A2,fc];simp
    rw[Cw];refine cY.draw a5 rfl rfl rfl ?_;refine bf.mk gg 0 fs rfl (by omega) ?_;refine aO.mk _ (e' _) ?_;refine bc.whole _ (aN k (by omega) (by omega) s ar) ?_;rintro v J N -⟨bk,iD⟩;subst J;subst N;exact⟨_,_,.refl,rfl,rfl⟩
   ·have A2:decide (d.hi=0)=true:=by have A1:(!decide (d.hi=0))=false:=cv;simpa using A1
    have Cw:kb (bD g.ds) d (d.ax.map (ga (bD g.ds) F t.ns))=[]:=by rw[kb,eB cr,eB ea,fu e,A2];rfl
    rw[Cw];exact⟨_,_,.refl,rfl,rfl⟩
  have lY:¬ d.k=6:=dO lY;have Cw:kb (bD g.ds) d (d.ax.map (ga (bD g.ds) F t.ns))=(d.ax.map (ga (bD g.ds) F t.ns)).flatMap (·.2):=by rw[kb,eB cr,eB ea,eB lY];rfl
  rw[Cw];refine de.inv (ι:=Nat×dS) (λx=>{ bj:=[(1,.val (.slice xa t.n xc)),(3,.val (Sf b1 b6 b7)),(4,.ref 4 0),(21,.val (.slice d.dy d.aL d.dq)),(22,.val (.int .i64 d.aL)),(23,.val (.int .i64 x.1))],cl:=[(4,t.cells)],cI:=I,c1:=kG b6 x.2::M1 }) (λx=>x.1<=d.aL/\x.2.m.length=64/\s.marks i ((d.ax.map (ga (bD g.ds) F t.ns)).flatMap (·.2))=x.2.marks i (((d.ax.drop x.1).map (ga (bD g.ds) F t.ns)).flatMap (·.2))) (λx=>d.aL-x.1) ?_ ?_;·exact⟨(0,s),⟨dz _,ar,rfl⟩,.refl,ov,.cons rfl (.nil)⟩
  rintro⟨q,b3⟩⟨aP,om,et⟩;simp only at aP om et;refine aZ.mk (λh=>?_) (λh=>?_)
  rotate_left
  ·have cA:d.ax.length<=q:=by have:¬ (q:Int)<(d.aL:Int):=dO h;omega
   rw[u0 cA]at et;refine⟨_,_,.refl,rfl,?_⟩;rw[et];rfl
  have aV:q<d.aL:=by have:(q:Int)<(d.aL:Int):=dh h;omega
  have ch:q<d.ax.length:=by omega
  obtain⟨gg,fs,e'⟩:=aj.a0.one aV ch;obtain⟨k,ae,It⟩:=Ah q ch;rw[ae]at e';rw[eR ch,cb,ae,kr,dS.aaP]at et;refine bf.mk gg q fs rfl aV ?_;refine aO.mk _ (e' _) ?_;refine bc.whole _ (aN k (by omega) (by omega) b3 om) ?_;rintro v J N -⟨bk,iD⟩;subst J;subst N;refine bg.mk _ (cK (i:=q) (by omega)) ?_;exact⟨(q+1,b3.marks i (ga (bD g.ds) F t.ns k).2),⟨⟨aV,by rw[dS.EU];exact om,et⟩,by simp only;omega⟩,.refl,ov,.cons rfl (.nil)⟩
def ey.yh(h:ey I M w)(aC:M.Perm N):ey I N w:=
 ⟨h.i,λx ad=>h.m x (aC.mem_iff.2 ad),λx ad=>h.d x (aC.mem_iff.2 ad),((aC.map (·.num)).nodup_iff).1 h.cd⟩
def Kept.yh{yi:List aD}(h:Kept I M w I' M' w')(aC:M.Perm N)(DV:M'.Perm yi):Kept I N w I' yi w':=
 ⟨h.le,h.uh,λx ad=>by
  rcases h.vC x (DV.mem_iff.2 ad)with⟨y,aE,e⟩ | aa;·exact .inl ⟨y,aC.mem_iff.1 aE,e⟩
  ·exact .inr aa,λb ag aE=>h.dE b ag λy s8=>aE y (aC.mem_iff.1 s8),h.out,h.sz⟩
def Spec.yh{p q:Value->aI->List aD->Prop}(aC:M.Perm N)(aP:∀ v I' M',p v I' M'->∃ yi,M'.Perm yi/\q v I' yi)(h:Spec P f args I M p):Spec P f args I N q:=by
 rcases h with⟨aa,ab⟩ | ab
 ·refine .inl ⟨aa,λw hw=>(ab w (hw.yh aC.symm)).mono ?_⟩;rintro e w'⟨v,I',M',ak,aJ,bB,b5⟩;obtain⟨yi,dZ,fj⟩:=aP _ _ _ aJ;exact⟨v,I',yi,ak,fj,bB.yh dZ,b5.yh aC dZ⟩
 ·refine .inr λw hw=>?_;obtain⟨v,w',I',M',ak,aJ,bB,b5⟩:=ab w (hw.yh aC.symm);obtain⟨yi,dZ,fj⟩:=aP _ _ _ aJ;exact⟨v,w',I',yi,ak,fj,bB.yh dZ,b5.yh aC dZ⟩
def dS.loop(s:dS)(i:Nat):dS:=⟨s.n,s.m,s.w ||| lA i⟩
def qQ(pl:List (ByteArray×Int))(F:List aU)(s:dS)(i:Nat)(d:aQ):dS:=
 bif n' d.t.ns (eo pl F d.t.ns [])then(s.marks i (ga pl F d.t.ns d.t.bA).2).loop i else s.marks i (ga pl F d.t.ns d.t.bA).2
def kH(n:Nat):dS:=⟨n,List.replicate 64 0,0⟩
def jT(pl:List (ByteArray×Int))(F:List aU):Nat->List aQ->dS->dS
 |_,[],s=>s| i,d::ds,s=>jT pl F (i+1) ds (qQ pl F s i d)
def qR(ds:List aQ)(F:List aU):dS:=jT (bD ds) F 0 ds (kH ds.length)
def aaT(pl:List (ByteArray×Int))(F:List aU)(s:dS)(i:Nat)(d:aQ):(qQ pl F s i d).m.length=s.m.length:=by
 unfold qQ;cases n' d.t.ns (eo pl F d.t.ns [])with
 |true=>exact dS.EU _ s i| false=>exact dS.EU _ s i
def aaU(pl:List (ByteArray×Int))(F:List aU):∀ (l:List aQ) (i:Nat) (s:dS) (d:aQ),jT pl F i (l++[d]) s=qQ pl F (jT pl F i l s) (i+l.length) d
 |[],i,s,d=>rfl| a::l,i,s,d=>by rw[mU,jT,jT,aaU pl F l];congr 1;simp;omega
def Si(pl:List (ByteArray×Int))(F:List aU):∀ (l:List aQ) (i:Nat) (s:dS),(jT pl F i l s).m.length=s.m.length
 |[],i,s=>rfl| d::l,i,s=>by rw[jT,Si pl F l,aaT]
def aaV(a':kG b s∈M):cM I M ((⟨b,0,none⟩:Addr).add 65) 1 [o3 s.w]:=by rw[eP _ rfl];refine⟨rfl,_,_,_,.inr ⟨_,a',rfl,rfl⟩,?_,rfl⟩;show(s.cells.drop (0+65)).take 1=_;rw[dS.cells,db,Hv,Bs (tM _)];rfl
def anc(s:dS)(i:Nat):ck s.cells (0+65) [o3 (s.w ||| lA i)]=(s.loop i).cells:=by unfold dS.cells dS.loop ck;simp only[db,dx,fL];rw[qb,qn (tM _),Hv,u0 (by simp[tM])];simp
def Ma(a':kG b s∈M):cM I M (⟨b,0,none⟩:Addr) 66 s.cells:=
 ⟨rfl,_,_,_,.inr ⟨_,a',rfl,rfl⟩,by simp only[vM];exact ft (show s.cells.length<=66 by rw[dS.cS];exact cc _),dS.cS s⟩
def ane(bs:fQ I aw)(au:g.ok I)(l0:∀ d∈g.ds,u7 d.t)(lF:dm aw g=0->g.n<=64):Spec Tryz.prog 104 [g.val] I [] λv I' M'=>(∀ b o,I b=some o->I' b=some o)/\M'=[] /\
  ((dm aw g≠0/\v=.tuple #[(kH 0).val,.int .i64 (dm aw g)])\/(dm aw g=0/\∃ F,jM g.ds F/\v=.tuple #[(qR g.ds F).val,.int .i64 0])):=by
 refine bZ [1,2,6,7] a5 Tryz.func104 rfl rfl rfl ?_;intro B az;have fM:=au.n;have ju:=au.a0.cap;refine bX.mk λb1 hk P4=>?_;refine bX.mk λb0 gU Kt=>?_;refine aO.mk [.slice g.a g.n g.c] (c4 (cs:=[.slice g.a g.n g.c]) (k:=0) (n:=1) (.tail _ (.head _)) (by simp)) ?_;refine bc.mk [] [kG b0 (kH 0),⟨b1,.cells #[.slice g.a g.n g.c] 24 (0,0)⟩] _ (.refl _) (ajv bs au) ?_;rintro v I1 N -⟨cn,⟨hm,rfl,rfl⟩|⟨hm,tJ,F,rfl,rfl,bG⟩⟩
 ·refine aZ.mk (λ_=>?_) (λh=>absurd h (by simp[hm]));refine b2.rO [] _ _ _ rfl rfl rfl rfl (kH 0).cells rfl ?_;refine aO.mk _ (Ma (.head _)) ?_;exact⟨_,_,.sub (fp _) .refl,cn,rfl,.inl ⟨hm,rfl⟩⟩
 refine aZ.mk (λh=>absurd h (by simp)) (λ_=>?_);have a':=K3 fM hm;have aaW:F.length=g.n:=by rw[bG.len,fM]
 have anf:=lF hm;refine aO.mk [.slice g.a g.n g.c] (c4 (cs:=[.slice g.a g.n g.c]) (k:=0) (n:=1) (.tail _ (.tail _ (.head _))) (by simp)) ?_;refine bX.mk λb6 BF O6=>?_;refine b2.rO [] _ _ _ rfl rfl rfl rfl (kH g.n).cells rfl ?_;refine aO.mk [.slice g.a g.n g.c] (c4 (cs:=[.slice g.a g.n g.c]) (k:=0) (n:=1) (.tail _ (.tail _ (.tail _ (.head _)))) (by simp)) ?_;refine de.inv (ι:=Nat×aI) (λx=>{ bj:=[(1,.val (ptr b1)),(2,.val (ptr b0)),(4,.val (.slice (some ⟨tJ,0,none⟩) g.n g.n)),(6,.val (ptr b6)),(25,.val (.slice g.a g.n g.c)),(26,.val (.int .i64 g.n)),(27,.val (.int .i64 x.1))],cl:=[],cI:=x.2,c1:=[kG b6 (jT (bD g.ds) F 0 (g.ds.take x.1) (kH g.n)),fN tJ F,kG b0 (kH 0),⟨b1,.cells #[.slice g.a g.n g.c] 24 (0,0)⟩] }) (λx=>x.1<=g.n/\∀ b o,I b=some o->x.2 b=some o) (λx=>g.n-x.1) ?_ ?_
 ·exact⟨(0,I1),⟨dz _,cn⟩,.refl,p',.nil⟩
 rintro⟨i,J⟩⟨hi,bk⟩;simp only at hi bk;refine aZ.mk (λh=>?_) (λh=>?_)
 rotate_left
 ·have cA:i=g.n:=by have:¬ (i:Int)<(g.n:Int):=dO h;omega
  refine aO.mk _ (Ma (.head _)) ?_;refine b2.rO [kG b6 (jT (bD g.ds) F 0 (g.ds.take i) (kH g.n)),fN tJ F] _ _ _ rfl rfl rfl rfl (jT (bD g.ds) F 0 (g.ds.take i) (kH g.n)).cells ?_ ?_;·rfl
  refine aO.mk _ (Ma (.tail _ (.tail _ (.head _)))) ?_;refine⟨_,_,.sub (fp _) .refl,bk,rfl,.inr ⟨hm,F,bG,?_⟩⟩;rw[cA,ft (l:=g.ds) (by omega),qR,fM];rfl
 have aV:i<g.n:=by have:(i:Int)<(g.n:Int):=dh h;omega
 have ch:i<g.ds.length:=by omega
 have Mb:=au.mono bk;have ang:=bs.mono bk;obtain⟨aS,bH,bl⟩:=Mb.a0.row aQ.cS aV ch;have gr:=bx ch;have aj:=Mb.ds _ gr;have af:=a'.right _ gr;have dY:=a'.named _ gr;have Sg:=l0 _ gr;have iN:jT (bD g.ds) F 0 (g.ds.take (i+1)) (kH g.n)=qQ (bD g.ds) F (jT (bD g.ds) F 0 (g.ds.take i) (kH g.n)) i g.ds[i]:=by rw[fZ ch,aaU,Pa (by omega),db]
 have e2:(jT (bD g.ds) F 0 (g.ds.take i) (kH g.n)).m.length=64:=by rw[Si];rfl
 generalize g.ds[i]=d at bl aj af dY Sg iN;refine bf.mk aS i bH rfl aV ?_;refine aO.mk _ (bl _) ?_;refine bX.mk λb7 Hz K5=>?_;refine b2.rO [] _ _ _ rfl rfl rfl rfl [.int .i64 i] rfl ?_;refine aO.mk [.slice g.a g.n g.c] (c4 (cs:=[.slice g.a g.n g.c]) (k:=0) (n:=1) (.tail _ (.tail _ (.tail _ (.tail _ (.head _))))) (by simp)) ?_;generalize au1:jT (bD g.ds) F 0 (g.ds.take i) (kH g.n)=s at e2 iN |-;have fb:∀ {M:List aD},fN tJ F∈M->lT J M (some ⟨tJ,0,none⟩) g.n F:=λx9=>by have:=K2 (I:=J) x9;rwa [aaW]at this
 have Mc:zI g F d.t=some (eo (bD g.ds) F d.t.ns []):=by rw[zI,af,dY,fu aaW];rfl
 refine bc.whole _ (ajq (lc:=g.n) ang Mb aj.t (fb (.tail _ (.tail _ (.head _))))) ?_;rintro v dn df -⟨dV,⟨aB,-,-⟩|⟨r,cf,aB,rfl,rfl⟩⟩
 ·rw[Mc]at aB;cases aB
 rw[Mc]at aB;obtain rfl:=fw aB;refine cq.mk (λh=>?_) (λh=>?_)
 rotate_left
 ·cases h
 refine aZ.mk (λh=>absurd h (by simp)) (λ_=>?_);have tl:=qo af;have z5:=aaQ (b1:=b1) (b6:=b6) (b7:=b7) (i:=i) (xa:=some ⟨cf,0,none⟩) (xc:=d.t.n) (F:=F) (Mb.mono dV) anf (aj.t.mono dV) Sg af dY (by omega) (M1:=[fN cf (eo (bD g.ds) F d.t.ns []),⟨b7,.cells #[.int .i64 i] 3 (0,0)⟩,fN tJ F,kG b0 (kH 0),⟨b1,.cells #[.slice g.a g.n g.c] 24 (0,0)⟩]) (.tail _ (.tail _ (.tail _ (.tail _ (.head _))))) (.tail _ (.head _)) (by
  have:=K2 (I:=dn) (M:=[fN cf (eo (bD g.ds) F d.t.ns []),⟨b7,.cells #[.int .i64 i] 3 (0,0)⟩,fN tJ F,kG b0 (kH 0),⟨b1,.cells #[.slice g.a g.n g.c] 24 (0,0)⟩]) (b:=cf) (l:=eo (bD g.ds) F d.t.ns []) (.head _);rw[Hp,aj.t.n]at this;simpa using this) d.t.ns.length d.t.bA.toNat (by omega) (by omega) s e2
 rw[ze tl.1]at z5;have anh:=Spec.yh (q:=λv I' M'=>I'=dn/\M'=kG b6 (s.marks i (ga (bD g.ds) F d.t.ns d.t.bA.toNat).2)::[fN cf (eo (bD g.ds) F d.t.ns []),⟨b7,.cells #[.int .i64 i] 3 (0,0)⟩,fN tJ F,kG b0 (kH 0),⟨b1,.cells #[.slice g.a g.n g.c] 24 (0,0)⟩]) (mv (a:=kG b6 s) (l₁:=[fN cf (eo (bD g.ds) F d.t.ns []),⟨b7,.cells #[.int .i64 i] 3 (0,0)⟩]) (l₂:=[fN tJ F,kG b0 (kH 0),⟨b1,.cells #[.slice g.a g.n g.c] 24 (0,0)⟩])).symm (λv I' M' h=>⟨M',.refl _,h⟩) z5;refine bc.whole _ anh ?_;rintro v o8 N -⟨kf,iD⟩;subst o8;subst N;generalize fo:s.marks i (ga (bD g.ds) F d.t.ns d.t.bA.toNat).2=s1 at *;have au2:s1.m.length=64:=by rw[<-fo,dS.EU,e2]
 refine bc.whole _ (am1 (xs:=eo (bD g.ds) F d.t.ns []) (aj.t.mono dV) af ?_) ?_
 ·have:=K2 (I:=dn) (M:=kG b6 s1::[fN cf (eo (bD g.ds) F d.t.ns []),⟨b7,.cells #[.int .i64 i] 3 (0,0)⟩,fN tJ F,kG b0 (kH 0),⟨b1,.cells #[.slice g.a g.n g.c] 24 (0,0)⟩]) (b:=cf) (l:=eo (bD g.ds) F d.t.ns []) (.tail _ (.head _));rw[Hp,aj.t.n]at this;simpa using this
 rintro v o8 N -⟨ah,kf,iD⟩;subst o8;subst N;subst v;have eu:(kG b6 (qQ (bD g.ds) F s i d))=(kG b6 (bif n' d.t.ns (eo (bD g.ds) F d.t.ns [])then s1.loop i else s1)):=by rw[qQ,<-fo];rfl
 refine aZ.mk (λhe=>?_) (λhe=>?_)
 rotate_left
 ·have rf:n' d.t.ns (eo (bD g.ds) F d.t.ns [])=false:=he;refine bg.mk _ (cK (i:=i) (by omega)) ?_;refine⟨(i+1,dn),⟨⟨aV,λb o h=>dV _ _ (bk _ _ h)⟩,by simp only;omega⟩,.sub (.cons_cons _ (.cons _ (.cons _ (.refl _)))) (.n5 ?_),p',.nil⟩;simp only;rw[iN,eu,rf];rfl
 have rf:n' d.t.ns (eo (bD g.ds) F d.t.ns [])=true:=he;refine cY.draw a5 rfl rfl rfl ?_;refine aO.mk _ (aaV (.head _)) ?_;refine aO.mk [.int .i64 i] (c4 (cs:=[.int .i64 i]) (k:=0) (n:=1) (.tail _ (.tail _ (.head _))) (by simp)) ?_;refine w7.mk i rfl ?_;refine bg.mk _ (Q7 (by omega)) ?_;refine b2.ix [] _ s1.cells _ rfl ?_ rfl (s1.loop i).cells ?_ ?_
 ·rw[dS.cS];rfl
 ·show ck s1.cells (0+65) [Value.int .u64 (EB s1.w.toNat (lA i).toNat)]=_;rw[LD];exact anc s1 i
 refine bg.mk _ (cK (i:=i) (by omega)) ?_;refine⟨(i+1,dn),⟨⟨aV,λb o h=>dV _ _ (bk _ _ h)⟩,by simp only;omega⟩,.sub (.cons_cons _ (.cons _ (.cons _ (.refl _)))) (.n5 ?_),p',.nil⟩;simp only;rw[iN,eu,rf];rfl
def EV(l:List Nat):List Value:=l.map λn:Nat=>Value.int .i64 n
def Ai(s:dS):List Nat:=bitsOf s.w 64
open Classical in
noncomputable def wL(s:dS):List Nat:=(List.range 64).filter λi=>decide (qH s.m i i)
def ani{b:dt}(h:∀ i,i<64->(b.getLsbD i=true ↔ qH s.m i i)):bitsOf b 64=wL s:=by
 unfold bitsOf wL;apply F6;intro i hi;have:=h i (by simpa using hi);by_cases ap:qH s.m i i
 ·simp[ap,this.2 ap]
 ·have:b.getLsbD i=false:=by
   cases ag:b.getLsbD i with
   |false=>rfl| true=>exact absurd (this.1 ag) ap
  simp[ap,this]
def aaX(pl:List (ByteArray×Int))(F:List aU):∀ (l:List aQ) (i:Nat) (s:dS),(jT pl F i l s).n=s.n
 |[],i,s=>rfl
 |d::l,i,s=>by
  rw[jT,aaX pl F l];have hm:∀ (q:List Nat) (s:dS),(s.marks i q).n=s.n:=λq=>by
   induction q with
   |nil=>exact λs=>rfl
   |cons k q aN=>exact λs=>aN (s.mark i k)
  unfold qQ;cases n' d.t.ns (eo pl F d.t.ns [])with
  |true=>exact hm _ s| false=>exact hm _ s
def anj(ds:List aQ)(F:List aU):(qR ds F).n=ds.length:=aaX _ _ _ _ _
def ank(ds:List aQ)(F:List aU):(qR ds F).m.length=64:=by rw[qR,Si];rfl
noncomputable def Iu(e:Int)(s:dS):Int×Int:=
 if e≠0 then(0,e)else if 0<(wL s).length then(((wL s).headD 0:Nat),42)else if 0<(Ai s).length then(((Ai s).headD 0:Nat),43)else(0,0)
def aX.pos(h:os.ok 1 (EV l)):l.length=os.n:=by have:=h.len;simpa[EV]using this
def aaY(h:os.ok 1 (EV l))(ay:0<l.length)(a':os.aq e++M0=M):∃ aS,os.a.map (λg=>(⟨g,0,none⟩:Addr))=some aS/\cM I M (aS.add (0*1)) 1 [.int .i64 (l.headD 0:Nat)]:=by
 have aC:=aX.pos h;cases a2:os.a with
 |none=>have:=(h.nil a2).1;omega
 |some b=>
  obtain⟨aa,ab,ak,aJ⟩:=h.cap b a2;refine⟨⟨b,0,none⟩,rfl,?_⟩;subst a';cases l with
  |nil=>simp at ay
  |cons a l=>
   cases ap:os.aR with
   |nil=>rw[ap]at aJ;simp[EV]at aJ
   |cons x xs=>
    rw[ap]at aJ;have aB:os.n*1=(os.n-1)+1:=by omega
    rw[aB,qb]at aJ;have ad:x=.int .i64 a:=(Gx aJ).1;refine⟨rfl,_,_,_,.inr ⟨⟨b,.cells os.aR.toArray e (0,0)⟩,?_,rfl,rfl⟩,?_,rfl⟩;·unfold aX.aq;rw[a2];exact .head _
    ·rw[ap,ad];rfl
def anl(bs:fQ I aw)(au:g.ok I)(l0:∀ d∈g.ds,u7 d.t)(lF:dm aw g=0->g.n<=64):Spec Tryz.prog 57 [g.val] I [] λv I' M'=>(∀ b o,I b=some o->I' b=some o)/\M'=[] /\
  ∃ r:Int×Int,v=.tuple #[.int .i64 r.1,.int .i64 r.2]/\((dm aw g≠0/\r=(0,dm aw g))\/(dm aw g=0/\∃ F,jM g.ds F/\r=Iu 0 (qR g.ds F))):=by
 refine bZ [4] a5 Tryz.func57 rfl rfl rfl ?_;intro B az;have fM:=au.n;refine bc.mk [] [] _ (.refl _) (ane bs au l0 lF) ?_;rintro v I1 N -⟨cn,rfl,⟨hm,rfl⟩|⟨hm,F,bG,rfl⟩⟩
 ·refine bX.mk λeQ zv DN=>?_;refine b2.rO [] _ _ _ rfl rfl rfl rfl (kH 0).cells rfl ?_;refine aZ.mk (λh=>?_) (λh=>absurd h (by simp[hm]));exact⟨_,_,.sub (fp _) .refl,cn,rfl,(0,dm aw g),rfl,.inl ⟨hm,rfl⟩⟩
 refine bX.mk λeQ zv DN=>?_;refine b2.rO [] _ _ _ rfl rfl rfl rfl (qR g.ds F).cells rfl ?_;have iN:=anj g.ds F;have e2:=ank g.ds F;have aB:=lF hm;generalize ar:qR g.ds F=s at iN e2;refine aZ.mk (λh=>absurd h (by simp)) (λ_=>?_);refine aO.mk _ (Ma (.head _)) ?_;refine bc.whole _ (akG s ⟨e2,by omega⟩) ?_;rintro v J N -⟨rfl,rfl,b,rfl,ag⟩;refine bc.whole _ (Za b) ?_;rintro v J N -⟨rfl,os,bS,rfl,rfl⟩;have bS:os.ok 1 (EV (wL s)):=by rw[<-ani ag];exact bS
 have aC:=aX.pos bS;refine aZ.mk (λh=>?_) (λh=>?_)
 ·have bd:0<(wL s).length:=by have:(0:Int)<(os.n:Int):=dh h;omega
  obtain⟨aS,bH,bl⟩:=aaY (I:=J) bS bd rfl;refine bf.mk aS 0 bH rfl (by omega) ?_;refine aO.mk _ bl ?_;exact⟨_,_,.sub (fp _) .refl,cn,rfl,(((wL s).headD 0:Nat),42),rfl,.inr ⟨hm,F,bG,by rw[ar,Iu,bU (by simp),bQ bd]⟩⟩
 have bd:¬ 0<(wL s).length:=by have:¬ (0:Int)<(os.n:Int):=dO h;omega
 refine aO.mk _ (aaV (ra _ (.head _))) ?_;refine bc.whole _ (Za s.w) ?_;rintro v dn N -⟨rfl,Sj,Md,rfl,rfl⟩;have Md:Sj.ok 1 (EV (Ai s)):=Md;have kc:=aX.pos Md;refine aZ.mk (λh=>?_) (λh=>?_)
 ·have ab:0<(Ai s).length:=by have:(0:Int)<(Sj.n:Int):=dh h;omega
  obtain⟨aS,bH,bl⟩:=aaY (I:=dn) Md ab rfl;refine bf.mk aS 0 bH rfl (by omega) ?_;refine aO.mk _ bl ?_;exact⟨_,_,.sub (fp _) .refl,cn,rfl,(((Ai s).headD 0:Nat),43),rfl,.inr ⟨hm,F,bG,by rw[ar,Iu,bU (by simp),bU bd,bQ ab]⟩⟩
 have ab:¬ 0<(Ai s).length:=by have:¬ (0:Int)<(Sj.n:Int):=dO h;omega
 exact⟨_,_,.sub (fp _) .refl,cn,rfl,(0,0),rfl,.inr ⟨hm,F,bG,by rw[ar,Iu,bU (by simp),bU bd,bU ab]⟩⟩
def Me(l:List Nat)(w:dt):dt:=l.foldl (λw k=>w ||| lA k) w
def anm(l:List Nat)(w:dt){i:Nat}(hi:i<64):(Me l w).getLsbD i=(w.getLsbD i||l.contains i):=aj1 l w hi
def pS(m:List dt)(i:Nat):m.set i (m.getD i 0)=m:=by
 apply zg;intro j;rw[ia];by_cases h:i=j
 ·subst h;by_cases ay:i<m.length
  ·simp[ay,bz]
  ·simp[ay]
 ·simp[h]
def aaZ(i:Nat):∀ (l:List Nat) (s:dS),i<s.m.length->(s.marks i l).m=s.m.set i (Me l (s.m.getD i 0))
 |[],s,h=>(pS s.m i).symm| k::l,s,h=>by have aN:=aaZ i l (s.mark i k) (by simpa[dS.mark]using h);show((s.mark i k).marks i l).m=_;rw[aN,dS.mark];simp only;rw[J9,Q8 (by simpa using h)];rfl
def Sk(i:Nat):∀ (l:List Nat) (s:dS),(s.marks i l).w=s.w
 |[],s=>rfl| k::l,s=>Sk i l (s.mark i k)
def aa0(pl:List (ByteArray×Int))(F:List aU)(s:dS)(i:Nat)(d:aQ)(h:i<s.m.length):(qQ pl F s i d).m=s.m.set i (Me (ga pl F d.t.ns d.t.bA).2 (s.m.getD i 0)):=by
 unfold qQ;rw[<-aaZ i _ s h];cases n' d.t.ns (eo pl F d.t.ns [])<;>rfl
def aa1(pl:List (ByteArray×Int))(F:List aU)(s:dS)(i:Nat)(d:aQ):(qQ pl F s i d).w=bif n' d.t.ns (eo pl F d.t.ns [])then s.w ||| lA i else s.w:=by
 unfold qQ;cases n' d.t.ns (eo pl F d.t.ns [])
 ·exact Sk i _ s
 ·show(s.marks i _).w ||| lA i=_
  rw[Sk];rfl
def Sl(pl:List (ByteArray×Int))(F:List aU):∀ (l:List aQ) (i:Nat) (s:dS),s.m.length=64->i+l.length<=64 -> (∀ j,j<i\/i+l.length<=j->(jT pl F i l s).m.getD j 0=s.m.getD j 0) /\ (∀ q (h:q<l.length),(jT pl F i l s).m.getD (i+q) 0=Me (ga pl F l[q].t.ns l[q].t.bA).2 (s.m.getD (i+q) 0)) /\ (∀ j,j<64->j<i\/i+l.length<=j->(jT pl F i l s).w.getLsbD j=s.w.getLsbD j) /\ (∀ q (h:q<l.length),(jT pl F i l s).w.getLsbD (i+q)=(s.w.getLsbD (i+q)||n' l[q].t.ns (eo pl F l[q].t.ns [])))
 |[],i,s,_,_=>⟨λ_ _=>rfl,λ_ h=>absurd h (by simp),λ_ _ _=>rfl,λ_ h=>absurd h (by simp)⟩
 |d::l,i,s,ar,ay=>by
  rw[dx]at ay;obtain⟨aa,ab,ak,aJ⟩:=Sl pl F l (i+1) (qQ pl F s i d) (by rw[aaT,ar]) (by omega);have hm:∀ j,j≠i->(qQ pl F s i d).m.getD j 0=s.m.getD j 0:=λj ai=>by rw[aa0 pl F s i d (by omega)];simp[bz,ia,po ai]
  have hw:∀ j,j<64->j≠i->(qQ pl F s i d).w.getLsbD j=s.w.getLsbD j:=λj ai bn=>by
   rw[aa1];cases n' d.t.ns (eo pl F d.t.ns []);·rfl
   ·rw[ca,BZ,La ai];simp[bn]
  refine⟨λj ai=>?_,λq h=>?_,λj ai ti=>?_,λq h=>?_⟩;·rw[dx]at ai;rw[jT,aa j (by omega),hm j (by omega)]
  ·cases q with
   |zero=>rw[jT,aa _ (by omega),aa0 pl F s i d (by omega)];rw[pk,Q8 (by omega)];rfl| succ q=>have:=ab q (by simpa using h);rw[show i+1+q=i+(q+1) by omega]at this;rw[jT,this,hm _ (by omega)];rfl
  ·rw[dx]at ti;rw[jT,ak j ai (by omega),hw j ai (by omega)]
  ·cases q with
   |zero=>
    rw[jT,ak _ (by omega) (by omega),aa1,pk,uq];cases he:n' d.t.ns (eo pl F d.t.ns []);·simp
    ·rw[ca,BZ,La (by omega)];simp
   |succ q=>
    have aP:q<l.length:=by simpa using h
    have:=aJ q aP;rw[show i+1+q=i+(q+1) by omega]at this;rw[jT,this,hw _ (by omega) (by omega)];rfl
def jC(ds:List aQ)(F:List aU)(i:Nat):List Nat:=match ds[i]? with
 |some d=>(ga (bD ds) F d.t.ns d.t.bA).2| none=>[]
def Iv(ds:List aQ)(F:List aU)(i:Nat):Bool:=match ds[i]? with
 |some d=>n' d.t.ns (eo (bD ds) F d.t.ns [])| none=>false
def Mf{ds:List aQ}(aB:ds.length<=64){i k:Nat}(ae:k<64):((qR ds F).m.getD i 0).getLsbD k=(jC ds F i).contains k:=by
 obtain⟨aa,ab,-,-⟩:=Sl (bD ds) F ds 0 (kH ds.length) (by rfl) (by omega);have az:∀ j,(kH ds.length).m.getD j 0=0#64:=λj=>by
  simp only[kH,bz,PY];by_cases h:j<64<;>simp[h]
 unfold jC qR;by_cases h:i<ds.length
 ·have:=ab i h;rw[db]at this;rw[this,az,anm _ _ ae,da h];simp
 ·rw[aa i (by omega),az,qa (by omega)];simp
def aa2{ds:List aQ}(aB:ds.length<=64){i:Nat}(hi:i<64):(qR ds F).w.getLsbD i=Iv ds F i:=by
 obtain⟨-,-,aa,ab⟩:=Sl (bD ds) F ds 0 (kH ds.length) (by rfl) (by omega);unfold Iv qR;by_cases h:i<ds.length
 ·have:=ab i h;rw[db]at this;rw[this,da h];simp[kH]
 ·rw[aa i hi (by omega),qa (by omega)];simp[kH]
section
end
section
end
structure ann(t:bR):Prop where
 n:t.n<2500
 ns:∀ cd∈t.ns,PB cd
structure hL(L:List bR)(n0:Nat)(x:Nat×Nat):Prop where
 i:x.2<=L.length
 n:x.1<=6000
 ge:n0<=x.1
 small:x.1<2500->x.2<=x.1/\∀ j (h:j<L.length),j<x.2->ann L[j]
def Mg{ds:List aQ}{f:aQ->aU}{i:Nat}(h:i<ds.length):(ds.map f).getD i bY=f ds[i]:=by simp[bz,h]
def oX.all{ds:List aQ}{l:List aU}(h:oX ds l):oX ds (ds.map (ie (bD ds) l))/\ew l (ds.map (ie (bD ds) l)):=by
 have bp:ew l (ds.map (ie (bD ds) l)):=ew.of (by simp[h.len]) λi hi=>by rw[Mg (by rw[<-h.len];exact hi)];exact h.up i _
 refine⟨⟨by simp,λi hi=>?_,λm hm ap=>ew.of (by simp[hm]) λi hi=>?_⟩,bp⟩
 ·rw[Mg hi];exact Hs bp _
 ·have cX:i<ds.length:=by simpa using hi
  rw[Mg cX];exact(Hs (h.least m hm ap) _).trans (ap i cX)
def Aj(b:Bool)(xs:List (aU×List Nat)):List Nat:=bif b then jO xs else xs.flatMap (·.2)
def ano(b:Bool):Aj b []=[]:=by cases b<;>rfl
def anp(b:Bool)(x:aU×List Nat)(xs:List (aU×List Nat)):Aj b (x::xs)=x.2++bif b && !x.1.z then []else Aj b xs:=by
 cases b with
 |true=>
  cases bb:x.1.z<;>simp[Aj,jO,bb]
 |false=>simp[Aj]
def anq{pl:List (ByteArray×Int)}{d:an}{xs:List (aU×List Nat)}(ak:¬ d.k=3)(b5:¬ (d.k=6/\d.hi=0)):kb pl d xs=Aj (decide (d.k=4)) xs:=by
 unfold kb Aj;rw[eB ak,b'];cases aJ:decide (d.k=4)with
 |true=>rfl
 |false=>
  rw[b',b'];by_cases a:d.k=6;·have b:¬ d.hi=0:=λe=>b5 ⟨a,e⟩;rw[fu a,eB b];rfl
  ·rw[eB a];rfl
def yj(pl:List (ByteArray×Int))(F:List aU)(d:an)(xs:List ((aU×List Nat)×Bool)):Bool:=xs.any λx=>(decide (d.k=6)&&(decide (d.hi=-1)&&x.1.1.z))||x.2
def lG(pl:List (ByteArray×Int))(F:List aU)(d:an)(xs:List ((aU×List Nat)×Bool)):(aU×List Nat)×Bool:=(qG pl F d (xs.map (·.1)),yj pl F d xs)
def o9(pl:List (ByteArray×Int))(F:List aU)(ns:List an)(j:Int):(aU×List Nat)×Bool:=mo ((bY,[]),false) (λd g=>lG pl F d (d.ax.map g)) ns j
def aa3{pl:List (ByteArray×Int)}(af:right t=true){j:Nat}(ai:j<t.ns.length):o9 pl F t.ns j=lG pl F t.ns[j] (t.ns[j].ax.map (o9 pl F t.ns)):=
 Dz (λd g dJ h=>by rw[gM h]) af ai
def Mh{pl:List (ByteArray×Int)}{F:List aU}{t:bR}(af:right t=true):∀ (m j:Nat),j<m->j<t.ns.length->(o9 pl F t.ns j).1=ga pl F t.ns j
 |0,j,h,_=>absurd h (nM _)
 |m+1,j,hm,ai=>by
  rw[aa3 af ai,Qd af ai];have:(t.ns[j].ax.map (o9 pl F t.ns)).map (·.1)=t.ns[j].ax.map (ga pl F t.ns):=by rw[gO];refine gM λk ae=>?_;obtain⟨aa,ab⟩:=mm af j ai k ae;obtain⟨q,rfl⟩:=eA aa;exact Mh af m q (by omega) (by omega)
  show qG pl F t.ns[j] _=_;rw[this]
def anr(pl:List (ByteArray×Int))(F:List aU)(ns:List an)(j:Int):o9 pl F (ns.map an.a4) j=o9 pl F ns j:=by unfold o9 mo;rw[HA (f:=λd g=>lG pl F d (d.ax.map g)) (g:=λd g=>lG pl F d (d.ax.map g)) (λd q=>rfl)]
def pT(ds:List aQ)(F:List aU)(i:Nat):List Nat:=(List.range ds.length).filter λk=>(jC ds F i).contains k
def pU(ds:List aQ)(F:List aU)(i:Nat):Bool:=match ds[i]? with
 |some d=>(o9 (bD ds) F d.t.ns d.t.bA).2| none=>false
def pV(ds:List aQ)(F:List aU):List Nat:=(List.range ds.length).filter (pU ds F)
inductive kg(A:Nat->List Nat):Nat->Nat->Prop
 |one{i k}(h:k∈A i):kg A i k| step {i j k} (h:j∈A i) (t:kg A j k):kg A i k
def kg.snoc{i j k:Nat}(h:kg A i j)(ae:k∈A j):kg A i k:=by
 induction h with
 |one h=>exact .step h (.one ae)| step h t aN=>exact .step h (aN ae)
def vk:List Nat->List Nat->List Nat
 |[],l=>l| x::r,l=>vk r (bif l.contains x then l else l++[x])
def EW:∀ (r l:List Nat) (x:Nat),x∈vk r l ↔ x∈l\/x∈r
 |[],l,x=>by simp[vk]
 |y::r,l,x=>by
  rw[vk,EW r];cases h:l.contains y with
  |true=>
   have aE:y∈l:=by simpa using h
   rw[ca];constructor
   ·rintro(a | a)
    ·exact .inl a
    ·exact .inr (.tail _ a)
   ·rintro(a | a)
    ·exact .inl a
    ·rcases ee.1 a with rfl | a
     ·exact .inl aE
     ·exact .inr a
  |false=>
   rw[b'];rw[cE,ek,ee];constructor
   ·rintro((a | a) | a)
    ·exact .inl a
    ·exact .inr (.inl a)
    ·exact .inr (.inr a)
   ·rintro(a | a | a)
    ·exact .inl (.inl a)
    ·exact .inl (.inr a)
    ·exact .inr a
def aa4:∀ (r l:List Nat),∃ s,vk r l=l++s
 |[],l=>⟨[],by simp[vk]⟩
 |y::r,l=>by
  obtain⟨s,ar⟩:=aa4 r (bif l.contains y then l else l++[y]);rw[vk,ar];cases l.contains y with
  |true=>exact⟨s,rfl⟩| false=>exact⟨[y]++s,by simp⟩
def aa5:∀ (r l:List Nat),l.Nodup->(vk r l).Nodup
 |[],l,h=>h
 |y::r,l,h=>by
  rw[vk];apply aa5 r;cases ap:l.contains y with
  |true=>exact h
  |false=>
   have aE:y ∉ l:=by simpa using ap
   rw[b',r5];refine⟨h,by simp,λa a2 b ag e=>?_⟩;have:b=y:=by simpa using ag
   subst this;subst e;exact aE a2
def aa6:∀ (n:Nat) (l:List Nat),l.Nodup->(∀ x∈l,x<n)->l.length<=n
 |0,[],_,_=>cc _| 0,a::l,_,h=>absurd (h a (.head _)) (nM _)
 |n+1,l,aj,h=>by
  have aa:=aa6 n (l.erase n) (aj.erase n) λx ad=>by have ab:=h x (List.mem_of_mem_erase ad);have ak:x≠n:=(aj.mem_erase_iff.1 ad).1;omega
  have aJ:=List.length_erase (a:=n) (l:=l);split at aJ<;>omega
def EX(A:Nat->List Nat):Nat->Nat->List Nat->List Nat
 |0,_,l=>l
 |f+1,k,l=>match l[k]? with
  |some x=>EX A f (k+1) (vk (A x) l)| none=>l
structure tP(A:Nat->List Nat)(n k:Nat)(fq l:List Nat):Prop where
 cd:l.Nodup
 lt:∀ x∈l,x<n
 sub:∀ x∈fq,x∈l
 src:∀ x∈l,x∈fq\/∃ y∈fq,kg A y x
 pb:∀ j x,j<k->l[j]?=some x->∀ y∈A x,y∈l
 k:k<=l.length
def tP.len{k:Nat}{fq:List Nat}(h:tP A n k fq l):l.length<=n:=aa6 n l h.cd h.lt
def tP.next{A:Nat->List Nat}{n k:Nat}{fq l:List Nat}(dH:∀ x,∀ y∈A x,y<n)(h:tP A n k fq l){x:Nat}(ad:l[k]?=some x):tP A n (k+1) fq (vk (A x) l):=by
 obtain⟨s,ar⟩:=aa4 (A x) l;have ae:k<l.length:=by
  rcases Nat.lt_or_ge k l.length with aa | aa;·exact aa
  ·rw[qa aa]at ad;cases ad
 have hl:x∈l:=rc ad;refine⟨aa5 _ _ h.cd,λz bb=>?_,λz bb=>(EW _ _ _).2 (.inl (h.sub z bb)),λz bb=>?_,λj z ai bb y aE=>?_,by rw[ar];simp;omega⟩
 ·rcases(EW _ _ _).1 bb with a | a
  ·exact h.lt z a
  ·exact dH x z a
 ·rcases(EW _ _ _).1 bb with a | a
  ·exact h.src z a
  ·rcases h.src x hl with b | ⟨w,hw,b⟩
   ·exact .inr ⟨x,b,.one a⟩
   ·exact .inr ⟨w,hw,b.snoc a⟩
 ·have g4:l[j]?=some z:=by rw[ar,q' (by omega)]at bb;exact bb
  by_cases e:j=k;·subst e;rw[ad]at g4;obtain rfl:=fw g4;exact(EW _ _ _).2 (.inr aE)
  ·exact(EW _ _ _).2 (.inl (h.pb j z (by omega) g4 y aE))
def tP.done{i:Nat}(h:tP A n l.length (A i) l)(x:Nat):x∈l ↔ kg A i x:=by
 constructor
 ·intro ad;rcases h.src x ad with a | ⟨y,aE,a⟩
  ·exact .one a
  ·exact .step aE a
 ·have cl:∀ {y z:Nat},kg A y z->y∈l->z∈l:=fun {y z} ap=>by
   induction ap with
   |one ae=>intro aE;obtain⟨j,ai,e⟩:=j9 aE;exact h.pb j _ ai (by rw[da ai,e]) _ ae
   |step ai t aN=>intro aE;refine aN ?_;obtain⟨q,aP,e⟩:=j9 aE;exact h.pb q _ aP (by rw[da aP,e]) _ ai
  intro ap;cases ap with
  |one ae=>exact h.sub x ae| step ai t=>exact cl t (h.sub _ ai)
def Sm{pl:List (ByteArray×Int)}(af:right t=true){j:Nat}(ai:j<t.ns.length):(o9 pl F t.ns j).2=true ↔ ∃ k∈t.ns[j].ax,(t.ns[j].k=6/\t.ns[j].hi=-1/\(eo pl F t.ns []).getD k.toNat bY=(eo pl F t.ns []).getD k.toNat bY/\((eo pl F t.ns []).getD k.toNat bY).z=true)\/(o9 pl F t.ns k).2=true:=by
 have mZ:∀ k∈t.ns[j].ax,(o9 pl F t.ns k).1.1=(eo pl F t.ns []).getD k.toNat bY:=λk ae=>by obtain⟨aa,ab⟩:=mm af j ai k ae;obtain⟨q,rfl⟩:=eA aa;rw[Mh af (q+1) q (by omega) (by omega),Qe]
 rw[aa3 af ai];show yj pl F t.ns[j] _=true ↔ _;unfold yj;rw[wK];constructor
 ·rintro⟨x,ad,h⟩;obtain⟨k,ae,rfl⟩:=cC.1 ad;refine⟨k,ae,?_⟩;rw[mZ k ae]at h;simp only[kQ,cB,hR]at h;rcases h with⟨a,b,c⟩ | h
  ·exact .inl ⟨a,b,rfl,c⟩
  ·exact .inr h
 ·rintro⟨k,ae,h⟩;refine⟨_,cC.2 ⟨k,ae,rfl⟩,?_⟩;rw[mZ k ae];simp only[kQ,cB,hR];rcases h with⟨a,b,-,c⟩ | h
  ·exact .inl ⟨a,b,c⟩
  ·exact .inr h
def aa7{pl:List (ByteArray×Int)}{F:List aU}{t:bR}(af:right t=true):∀ (m j:Nat),j<t.ns.length->t.ns.length-j<=m->(o9 pl F t.ns j).2=true->(o9 pl F t.ns t.bA).2=true
 |0,j,ai,hm,_=>by omega
 |m+1,j,ai,hm,h=>by
  by_cases e:(j:Int)=t.bA;·rw[<-e];exact h
  ·obtain⟨p,aC,ae,aV⟩:=Xc af ai e;exact aa7 af m p aC (by omega) ((Sm af aC).2 ⟨_,ae,.inr h⟩)
def ans{l:List Int}{k:Int}(ae:k∈l)(h:l.length=1):l.headD 0=k:=by
 match l,h with
 |[a],_=>exact(ek.1 ae).symm
def aa8{pl:List (ByteArray×Int)}{F:List aU}{t:bR}(af:right t=true)(aa:∀ d∈t.ns,d.k=6->d.ax.length=1):∀ (m j:Nat),j<m->∀ (ai:j<t.ns.length),(o9 pl F t.ns j).2=true->n' t.ns (eo pl F t.ns [])=true
 |0,j,h,_,_=>absurd h (nM _)
 |m+1,j,hm,ai,h=>by
  obtain⟨k,ae,⟨a,b,-,c⟩ | h⟩:=(Sm af ai).1 h;·refine wK.2 ⟨t.ns[j],bx ai,?_⟩;simp only[cB,hR];refine⟨a,b,?_⟩;rw[ans ae (aa _ (bx ai) a)];exact c
  ·obtain⟨ab,ak⟩:=mm af j ai k ae;obtain⟨q,rfl⟩:=eA ab;exact aa8 af aa m q (by omega) (by omega) h
def ant{pl:List (ByteArray×Int)}(af:right t=true)(aa:∀ d∈t.ns,d.k=6->d.ax.length=1):(o9 pl F t.ns t.bA).2=n' t.ns (eo pl F t.ns []):=by
 obtain⟨k5,iO⟩:=qo af;obtain⟨r,fz⟩:=eA k5;apply r6.2;constructor
 ·intro h;rw[fz]at h;exact aa8 af aa (r+1) r (by omega) (by omega) h
 ·intro h;obtain⟨d,aj,h⟩:=wK.1 h;obtain⟨j,ai,rfl⟩:=j9 aj;simp only[cB,hR]at h;obtain⟨a,b,c⟩:=h;have ay:=aa _ aj a;have ae:t.ns[j].ax.headD 0∈t.ns[j].ax:=by
   match ad:t.ns[j].ax,ay with
   |[q],_=>simp
  exact aa7 af t.ns.length j ai (by omega) ((Sm af ai).2 ⟨_,ae,.inl ⟨a,b,rfl,c⟩⟩)
def aa9{b:Bool}{x:Nat}:∀ {xs:List (aU×List Nat)},x∈Aj b xs->∃ y∈xs,x∈y.2
 |[],h=>by rw[ano]at h;cases h
 |y::xs,h=>by
  rw[anp]at h;rcases cE.1 h with h | h;·exact⟨y,.head _,h⟩
  ·cases ag:b && !y.1.z with
   |true=>rw[ag]at h;cases h| false=>rw[ag]at h;obtain⟨z,bb,ad⟩:=aa9 (xs:=xs) h;exact⟨z,.tail _ bb,ad⟩
def aba{ds:List aQ}{F:List aU}{t:bR}(af:right t=true)(dY:wi (bD ds) t.ns=true):∀ (m j:Nat),j<m->j<t.ns.length->∀ x∈(ga (bD ds) F t.ns j).2,x<ds.length
 |0,j,h,_=>absurd h (nM _)
 |m+1,j,hm,ai=>by
  intro x ad;rw[Qd af ai]at ad;have ad:x∈kb (bD ds) t.ns[j] (t.ns[j].ax.map (ga (bD ds) F t.ns)):=ad;have h9:=fx.1 dY _ (bx ai);by_cases ak:t.ns[j].k=3
  ·obtain⟨q,BW,uZ,Is⟩:=aaN (nm:=t.ns[j].t) (ds:=ds) (by simpa[ak]using h9);rw[kb,fu ak,ca,Is]at ad;have:x=q:=by simpa using ad
   omega
  by_cases b5:t.ns[j].k=6/\t.ns[j].hi=0;·rw[kb,eB ak,b',eB (show ¬ t.ns[j].k=4 by omega),b',fu b5.1,fu b5.2]at ad;cases ad
  ·rw[anq ak b5]at ad;obtain⟨y,aE,anu⟩:=aa9 ad;obtain⟨k,ae,rfl⟩:=cC.1 aE;obtain⟨aa,ab⟩:=mm af j ai k ae;obtain⟨q,rfl⟩:=eA aa;exact aba af dY m q (by omega) (by omega) x anu
def Sn(a':wk g)(i:Nat):∀ k∈jC g.ds F i,k<g.ds.length:=by
 intro k ae;unfold jC at ae;by_cases h:i<g.ds.length
 ·rw[da h]at ae;have gr:=bx h;have af:=a'.right _ gr;obtain⟨k5,iO⟩:=qo af;obtain⟨r,fz⟩:=eA k5;have ae:k∈(ga (bD g.ds) F g.ds[i].t.ns g.ds[i].t.bA).2:=ae;rw[fz]at ae;exact aba af (a'.named _ gr) (r+1) r (by omega) (by omega) k ae
 ·rw[qa (by omega)]at ae;cases ae
def abb(a':wk g)(lF:g.ds.length<=64){i k:Nat}(hi:i<64):qH (qR g.ds F).m i k ↔ kg (jC g.ds F) i k:=by
 constructor
 ·intro h
  induction h with
  |one ae h=>rw[Mf lF ae]at h;exact .one (by simpa using h)| step h ai t aN=>rw[Mf lF ai]at h;exact .step (by simpa using h) (aN ai)
 ·intro h
  induction h with
  |one h=>have:=Sn a' _ _ h;exact .one (by omega) (by rw[Mf lF (by omega)];simpa using h)| step h t aN=>have:=Sn a' _ _ h;exact .step (by rw[Mf lF (by omega)];simpa using h) (by omega) (aN (by omega))
def abc(aB:n<=64)(p q:Nat->Bool)(aa:∀ k,k<n->p k=q k)(ab:∀ k,n<=k->k<64->p k=false):(List.range 64).filter p=(List.range n).filter q:=by
 have lF:(List.range 64)=List.range n++(List.range' n (64-n)):=by rw[w3,w3,show 64=n+(64-n) by omega,<-List.range'_append_1];simp
 have ak:(List.range' n (64-n)).filter p=[]:=by rw[Ra];intro k ae;rw[List.mem_range'_1]at ae;rw[ab k (by omega) (by omega)];simp
 rw[lF,BY,ak,ef];apply F6;intro k ae;exact aa k (by simpa using ae)
def anv(au:g.ok I)(a':wk g)(F:List aU)(i:Nat):pU g.ds F i=Iv g.ds F i:=by
 unfold pU Iv;by_cases h:i<g.ds.length
 ·rw[da h];have gr:=bx h;have af:=a'.right _ gr;have av:=(au.ds _ gr).t;refine ant af λd aj ae=>?_;obtain⟨j,ai,rfl⟩:=j9 aj;have bI:=av.ns _ aj;have:=(aaG bI.k.1 (DA af ai)).one (by omega);omega
 ·rw[qa (by omega)]
def anw(au:g.ok I)(a':wk g)(lF:g.ds.length<=64)(F:List aU):Ai (qR g.ds F)=pV g.ds F:=by
 unfold Ai pV bitsOf;refine abc lF _ _ (λk ae=>?_) (λk ae eN=>?_)
 ·rw[aa2 lF (by omega),anv au a']
 ·rw[aa2 lF eN,Iv,qa ae]
open Classical in
noncomputable def rY(ds:List aQ)(F:List aU):List Nat:=(List.range ds.length).filter λi=>decide (kg (jC ds F) i i)
def anx{ds:List aQ}{i:Nat}(h:ds.length<=i):jC ds F i=[]:=by rw[jC,qa h]
open Classical in
def anz(a':wk g)(lF:g.ds.length<=64)(F:List aU):wL (qR g.ds F)=rY g.ds F:=by
 unfold wL rY;refine abc lF _ _ (λk ae=>?_) (λk ae eN=>?_)
 ·exact decide_eq_decide.2 (abb a' lF (by omega))
 ·refine eB λap=>?_;have ap:=(abb a' lF eN).1 ap;have aB:=anx (F:=F) ae;cases ap with
  |one h=>rw[aB]at h;cases h| step h t=>rw[aB]at h;cases h
structure So(d:an):Prop where
 aL:d.aL<400
 t:d.t.size<8020
structure abd(t:bR):Prop where
 n:t.n<400
 ns:∀ cd∈t.ns,So cd
structure Sp(d:aQ):Prop where
 name:d.name.size<8020
 t:abd d.t
structure Mi(g:cx):Prop where
 n:g.n<400
 ds:∀ d∈g.ds,Sp d
def wa.Iw{d:an}(h:wa I d)(ar:So d):d.ok I:=
 ⟨h.k,h.cz,h.s1,h.s2,h.cZ,h.fJ,h.lo,h.hi,h.a0.DY (by have:=ar.aL;omega),h.ax⟩
def DX.Iw(h:DX I t)(ar:abd t):t.ok I:=
 ⟨h.a0.DY (by have:=ar.n;omega),λcd bI=>(h.ns cd bI).Iw (ar.ns cd bI),h.bA⟩
def sF.Iw(h:sF I g)(ar:Mi g):g.ok I:=
 ⟨h.a0.DY (by have:=ar.n;omega),λd aj=>⟨by have:=(ar.ds d aj).name;omega,(h.ds d aj).t.Iw (ar.ds d aj).t⟩⟩
def Sq(h:dm aw g=0):g.n<=64:=by
 unfold dm at h;cases aa:decide ((g.n:Int)=0)with
 |true=>rw[aa]at h;simp at h
 |false=>
  rw[aa,b']at h;cases ab:nF g.ds with
  |false=>rw[ab]at h;simp at h
  |true=>
   rw[ab]at h;cases ak:oN aw g with
   |true=>rw[ak]at h;simp at h| false=>unfold oN at ak;simp only[sq,sb]at ak;omega
def abe{A:Nat->List Nat}{n:Nat}{fq:List Nat}(dH:∀ x,∀ y∈A x,y<n):∀ (f k:Nat) (l:List Nat),tP A n k fq l->n+1<=f+k->tP A n (EX A f k l).length fq (EX A f k l)
 |0,k,l,h,aA=>by have:=h.len;have:=h.k;omega
 |f+1,k,l,h,aA=>by
  rw[EX];cases ad:l[k]? with
  |none=>
   have aa:k=l.length:=by have:=h.k;have:=List.getElem?_eq_none_iff.1 ad;omega
   subst aa;exact h
  |some x=>exact abe dH f (k+1) _ (h.next dH ad) (by omega)
def kg.congr{B:Nat->List Nat}(h:∀ i k,k∈A i->k∈B i){i k:Nat}(ap:kg A i k):kg B i k:=by
 induction ap with
 |one aa=>exact .one (h _ _ aa)| step aa t aN=>exact .step (h _ _ aa) aN
def kg.trans{i j k:Nat}(h:kg A i j)(bd:kg A j k):kg A i k:=by
 induction h with
 |one h=>exact .step h bd| step h t aN=>exact .step h (aN bd)
def abf(a':wk g){i k:Nat}:k∈pT g.ds F i ↔ k∈jC g.ds F i:=by
 unfold pT;rw[iX];constructor
 ·rintro⟨-,h⟩;simpa using h
 ·intro h;exact⟨by simpa using Sn a' i k h,by simpa using h⟩
def anA(a':wk g){i k:Nat}:kg (pT g.ds F) i k ↔ kg (jC g.ds F) i k:=
 ⟨kg.congr λ_ _ h=>(abf a').1 h,kg.congr λ_ _ h=>(abf a').2 h⟩
def abg{ds:List aQ}{i k:Nat}(h:k∈pT ds F i):k<ds.length:=by unfold pT at h;simpa using(iX.1 h).1
def anB(ds:List aQ)(F:List aU)(i:Nat):(pT ds F i).Nodup:=List.Nodup.sublist zf yX
def tP.start{ds:List aQ}(i:Nat):tP (pT ds F) ds.length 0 (pT ds F i) (pT ds F i):=
 ⟨anB ds F i,λx ad=>abg ad,λ_ h=>h,λ_ h=>.inl h,λj x ai=>absurd ai (nM _),dz _⟩
def Cx(ds:List aQ)(F:List aU):List Nat:=(List.range ds.length).filter λi=>(EX (pT ds F) (ds.length+1) 0 (pT ds F i)).contains i
open Classical in
def anC(a':wk g)(F:List aU):Cx g.ds F=rY g.ds F:=by
 unfold Cx rY;refine F6 λi _=>?_;have aa:=abe (λx y aE=>abg aE) (g.ds.length+1) 0 _ (tP.start (ds:=g.ds) (F:=F) i) (by omega);have ab:=(aa.done i).trans (anA a');cases ap:(EX (pT g.ds F) (g.ds.length+1) 0 (pT g.ds F i)).contains i with
 |true=>exact(fu (ab.1 (by simpa using ap))).symm| false=>refine(eB λh=>?_).symm;have:=ab.2 h;rw[<-List.contains_iff_mem,ap]at this;cases this
def pW:List Bool->Nat
 |[]=>0| b::r=>bif b then pW r+1 else pW r
open Classical in
noncomputable def Mj(ds:List aQ):List aU:=if h:∃ F,jM ds F then h.choose else []
def Sr{ds:List aQ}(h:jM ds F):Mj ds=F:=by have ad:∃ F,jM ds F:=⟨F,h⟩;unfold Mj;rw[dif_pos ad];exact ad.choose_spec.unique h
def m8(aw:List Int)(g:cx)(r:Int×Int):Prop:=(dm aw g≠0/\r=(0,dm aw g))\/(dm aw g=0/\∃ F,jM g.ds F/\r=if 0<(rY g.ds F).length then((((rY g.ds F).headD 0:Nat):Int),42)else if 0<(pV g.ds F).length then((((pV g.ds F).headD 0:Nat):Int),43)else(0,0))
def m8.eq{l m:Int×Int}(h:m8 aw g l)(bd:m8 aw g m):l=m:=by
 rcases h with⟨a,rfl⟩ | ⟨a,F,d,rfl⟩<;>rcases bd with⟨bM,rfl⟩ | ⟨bM,dk,ig,rfl⟩
 ·rfl
 ·exact absurd bM a
 ·exact absurd a bM
 ·rw[d.unique ig]
def anD(bs:fQ I aw)(au:g.ok I)(l0:∀ d∈g.ds,u7 d.t):Spec Tryz.prog 57 [g.val] I [] λv I' M'=>(∀ b o,I b=some o->I' b=some o)/\M'=[] /\ ∃ r:Int×Int,v=.tuple #[.int .i64 r.1,.int .i64 r.2]/\m8 aw g r:=
 Spec.qN (anl bs au l0 Sq) λv I' M' h=>by
  obtain⟨aa,ab,r,ak,bB⟩:=h;refine⟨aa,ab,r,ak,?_⟩;rcases bB with bB | ⟨hm,F,c,d⟩;·exact .inl bB
  ·have a':=K3 au.n hm;have lF:=Sq hm;have fM:=au.n;refine .inr ⟨hm,F,c,?_⟩;rw[d,Iu,bU (by simp),anz a' (by omega),anw au a' (by omega)]
def Mk(bs:fQ I aw)(au:g.ok I)(l0:∀ d∈g.ds,u7 d.t):Spec Tryz.prog 13 [g.val] I [] λv I' M'=>(∀ b o,I b=some o->I' b=some o)/\M'=[] /\
  ∃ r:Int×Int,v=.int .i64 r.2/\m8 aw g r:=by
 refine bZ [] a5 Tryz.func13 rfl rfl rfl ?_;intro B az;refine bc.mk [] [] _ (.refl _) (anD bs au l0) ?_;rintro v I1 N -⟨cn,rfl,r,rfl,h⟩;exact⟨_,_,.refl,cn,rfl,r,rfl,h⟩
section
end
structure rZ where
 k:Int
 cz:Int
 s1:Int
 s2:Int
 cZ:Int
 t:List UInt8
 lo:Int
 hi:Int
 ax:List Int
def rZ.cd(c:rZ)(a:Option Addr)(n k:Nat):an:=⟨c.k,c.cz,c.s1,c.s2,c.cZ,⟨c.t.toArray⟩,c.lo,c.hi,a,n,k,c.ax⟩
inductive yk:List rZ->List an->Prop
 |nil:yk [] []| cons {c cs ns} (a:Option Addr) (n k:Nat) (t:yk cs ns):yk (c::cs) (c.cd a n k::ns)
structure wM where
 ns:List rZ
 bA:Int
structure Ix(c:wM)(t:bR):Prop where
 ns:yk c.ns t.ns
 bA:t.bA=c.bA
structure h3 where
 name:List UInt8
 t:wM
inductive pX:List h3->List aQ->Prop
 |nil:pX [] []| cons {c cs ds} {t:bR} (h:Ix c.t t) (k:pX cs ds):pX (c::cs) (⟨⟨c.name.toArray⟩,t⟩::ds)
def abh:Int->Bool
 | .ofNat k=>Nat.ble k 9223372036854775807| .negSucc k=>Nat.ble k 9223372036854775807
def abi:Int->Bool
 | .ofNat k=>Nat.ble k 18446744073709551615| .negSucc _=>false
def okB:Int->Bool
 | .ofNat k=>Nat.ble k 255| .negSucc _=>false
def anE(h:abh x=true):iM x:=by
 cases x with
 |ofNat k=>have:=bJ h;exact⟨by simp only[xy];omega,by simp only[xy];omega⟩| negSucc k=>have:=bJ h;exact⟨by omega,by omega⟩
def anF(h:abi x=true):g6 x:=by
 cases x with
 |ofNat k=>have:=bJ h;exact⟨by simp,by simp;omega⟩| negSucc k=>cases h
def anG(h:okB x=true):0<=x/\x<256:=by
 cases x with
 |ofNat k=>have:=bJ h;exact⟨by simp,by simp;omega⟩| negSucc k=>cases h
noncomputable def Ss:ao->Option Int
 | .i .u8 n=>bW (okB n) (some n) none| _=>none
noncomputable def EY:ao->Option Int
 | .i .u64 n=>bW (abi n) (some n) none| _=>none
noncomputable def EZ:ao->Option Int
 | .i .i64 n=>bW (abh n) (some n) none| _=>none
noncomputable def Ml:ao->Option (List UInt8)
 | .s l=>bW (Nat.ble l.length 140737488355328) (some l) none| _=>none
section
variable{D:bO}{v:ao}{u:Value}
def anH{n:Int}(h:Ss v=some n)(ah:aT D v u):u=.int .u8 n/\0<=n/\n<256:=by
 unfold Ss at h;split at h
 ·obtain⟨aa,ab⟩:=fU h;cases ab;simp only[aT]at ah;exact⟨ah,anG aa⟩
 ·cases h
def Mm{n:Int}(h:EY v=some n)(ah:aT D v u):u=.int .u64 n/\g6 n:=by
 unfold EY at h;split at h
 ·obtain⟨aa,ab⟩:=fU h;cases ab;simp only[aT]at ah;exact⟨ah,anF aa⟩
 ·cases h
def Mn{n:Int}(h:EZ v=some n)(ah:aT D v u):u=.int .i64 n/\iM n:=by
 unfold EZ at h;split at h
 ·obtain⟨aa,ab⟩:=fU h;cases ab;simp only[aT]at ah;exact⟨ah,anE aa⟩
 ·cases h
def abj{l:List UInt8}(h:Ml v=some l)(ah:aT D v u):u=.string ⟨l.toArray⟩/\(⟨l.toArray⟩:ByteArray).size<=140737488355328:=by
 unfold Ml at h;split at h
 ·obtain⟨aa,ab⟩:=fU h;cases ab;simp only[aT]at ah;exact⟨ah,bJ aa⟩
 ·cases h
end
noncomputable def Iy{R:Type}(G:GT)(m:be fG)(x:ao)(size b:Nat)(K:List ao->Option R):Option R:=match x with
 | .sn=>K []| .so=>K []| .sl id off n c=>bW (Nat.ble n c) (bW (Nat.ble (Nat.mul n b) 140737488355328) (tK G m (.p id off) (Nat.mul n size) K) none) none| .sx id off e n=>bW (Nat.ble (Nat.mul n b) 140737488355328) (tK G m (.p id off) (Nat.mul n size) K) none| _=>none
noncomputable def ints:List ao->Option (List Int)
 |[]=>some []| v::l=>bq (EZ v) none λn=>bq (ints l) none λr=>some (n::r)
noncomputable def Mo(G:GT)(m:be fG):List ao->Option (List rZ)
 |[]=>some []
 |a::b::c::d::e::f::g::h::x::l=>bq (Ss a) none λa=>bq (EY b) none λb=>bq (EY c) none λc=>bq (EY d) none λd=>bq (EY e) none λe=>bq (Ml f) none λf=>bq (EZ g) none λg=>bq (EZ h) none λh=>
  bq (Iy G m x 1 8 ints) none λks=>bq (Mo G m l) none λns=>some (⟨a,b,c,d,e,f,g,h,ks⟩::ns)
 |_=>none
noncomputable def St(G:GT)(m:be fG)(x r:ao):Option wM:=bq (Iy G m x 9 96 (Mo G m)) none λns=>bq (EZ r) none λr=>some ⟨ns,r⟩
noncomputable def Mp(G:GT)(m:be fG):List ao->Option (List h3)
 |[]=>some []| a::x::r::l=>bq (Ml a) none λa=>bq (St G m x r) none λt=>bq (Mp G m l) none λds=>some (⟨a,t⟩::ds)
 |_=>none
noncomputable def Su(G:GT)(m:be fG):ao->Option (List h3)
 | .a [x]=>Iy G m x 3 48 (Mp G m)| _=>none
section
variable{Y:gH}{D:bO}{m:bo}{I J:aI}{M:List aD}
def Sv(h:c8 Y D m I M)(bk:vj I M J){x:ao}(ad:aT D x u){K:List ao->Option R}{r:R}(af:Iy Y.G m.t x size b K=some r) :
  ∃ a n c l vs,u=.slice a n c/\c3 J a n c size b vs/\bN D l vs/\K l=some r:=by
 unfold Iy at af;split at af
 ·simp only[aT]at ad;exact⟨none,0,0,[],[],ad,⟨by simp,⟨cc _,by omega⟩,.inl rfl⟩,by simp[bN],af⟩
 ·simp only[aT]at ad;obtain⟨a,c,ad⟩:=ad;exact⟨some a,0,c,[],[],ad,⟨by simp,⟨dz _,by omega⟩,.inl rfl⟩,by simp[bN],af⟩
 ·rename_i id off n c;obtain⟨aa,af⟩:=fU af;obtain⟨ab,af⟩:=fU af;simp only[aT]at ad;obtain⟨a,a2,ad⟩:=ad;obtain⟨aS,l,vs,aG,a7,cr,ea⟩:=wz h (x:=.p id off) (u:=.pointer (some ⟨a.b,a.o+off,none⟩)) (by simp only[aT];exact⟨a,a2,rfl⟩) af;cases aG;obtain⟨a8,cs,T,f,ba,bP,fr⟩:=a7;exact⟨_,n,c,l,vs,ad,⟨fr,⟨bJ aa,bJ ab⟩,.inr ⟨_,rfl,rfl,cs,T,f,bk.aL _ _ ba,bP⟩⟩,cr,ea⟩
 ·rename_i id off e n;obtain⟨ab,af⟩:=fU af;simp only[aT]at ad;obtain⟨a,a2,ap,ad⟩:=ad;obtain⟨aS,l,vs,aG,a7,cr,ea⟩:=wz h (x:=.p id off) (u:=.pointer (some ⟨a.b,a.o+off,none⟩)) (by simp only[aT];exact⟨a,a2,rfl⟩) af;cases aG;obtain⟨a8,cs,T,f,ba,bP,fr⟩:=a7;exact⟨_,n,a.c-e,l,vs,ad,⟨fr,⟨by omega,bJ ab⟩,.inr ⟨_,rfl,rfl,cs,T,f,bk.aL _ _ ba,bP⟩⟩,cr,ea⟩
 ·cases af
def abk:∀ {l:List ao} {vs:List Value} {ks:List Int},ints l=some ks->bN D l vs->vs=ks.map (Value.int .i64 ·)/\∀ x∈ks,iM x
 |[],vs,ks,h,ah=>by cases h;simp only[bN]at ah;exact⟨ah,by simp⟩
 |v::l,vs,ks,h,ah=>by unfold ints at h;obtain⟨n,aa,h⟩:=cp h;obtain⟨r,ab,h⟩:=cp h;cases h;simp only[bN]at ah;obtain⟨x,xs,a8,ba,rfl⟩:=ah;obtain⟨rfl,aG⟩:=Mn aa a8;obtain⟨rfl,a7⟩:=abk ab ba;exact⟨rfl,λx ad=>(ee.1 ad).elim (λe=>e ▸ aG) (a7 x)⟩
def abl(h:c8 Y D m I M)(bk:vj I M J):∀ (l:List ao) {vs:List Value} {cs:List rZ},Mo Y.G m.t l=some cs->bN D l vs->∃ ns:List an,vs=ns.flatMap an.cells/\yk cs ns/\∀ d∈ns,d.ok J
 |[],vs,cs,af,ah=>by cases af;simp only[bN]at ah;exact⟨[],ah,.nil,by simp⟩
 |a::b::c::d::e::f::g::i::x::l,vs,cs,af,ah=>by
  unfold Mo at af;obtain⟨bM,aa,af⟩:=cp af;obtain⟨iI,ab,af⟩:=cp af;obtain⟨c',ak,af⟩:=cp af;obtain⟨ig,aJ,af⟩:=cp af;obtain⟨cW,bB,af⟩:=cp af;obtain⟨uH,b5,af⟩:=cp af;obtain⟨dJ,dZ,af⟩:=cp af;obtain⟨gQ,fj,af⟩:=cp af;obtain⟨ks,dN,af⟩:=cp af;obtain⟨jk,ql,af⟩:=cp af;cases af;simp only[bN]at ah;obtain⟨_,_,ez,⟨_,_,cJ,⟨_,_,hc,⟨_,_,mq,⟨_,_,Ip,⟨_,_,Sw,⟨_,_,Sx,⟨_,_,Sy,⟨_,_,anI,anJ,rfl⟩,rfl⟩,rfl⟩,rfl⟩,rfl⟩,rfl⟩,rfl⟩,rfl⟩,rfl⟩:=ah;obtain⟨rfl,aG⟩:=anH aa ez;obtain⟨rfl,a7⟩:=Mm ab cJ;obtain⟨rfl,cr⟩:=Mm ak hc;obtain⟨rfl,ea⟩:=Mm aJ mq;obtain⟨rfl,ls⟩:=Mm bB Ip;obtain⟨rfl,lY⟩:=abj b5 Sw;obtain⟨rfl,Aa⟩:=Mn dZ Sx;obtain⟨rfl,Ia⟩:=Mn fj Sy;obtain⟨dy,aL,dq,li,au3,rfl,wG,anK,anL⟩:=Sv h bk anI dN;obtain⟨rfl,Sz⟩:=abk anL anK;obtain⟨ns,rfl,SA,anM⟩:=abl h bk l ql anJ;refine⟨rZ.cd ⟨bM,iI,c',ig,cW,uH,dJ,gQ,ks⟩ dy aL dq::ns,rfl,.cons dy aL dq SA,λy aE=>?_⟩;rcases ee.1 aE with rfl | aE;·exact⟨aG,a7,cr,ea,ls,k9 lY (by decide),Aa,Ia,wG,Sz⟩
  ·exact anM y aE
def anN(h:c8 Y D m I M)(bk:vj I M J){x r:ao}{w:Value}{c:wM}(af:St Y.G m.t x r=some c)(ad:aT D x u)(hw:aT D r w):∃ t:bR,u=.slice t.a t.n t.c/\w=.int .i64 t.bA/\t.ok J/\Ix c t:=by unfold St at af;obtain⟨ns,aa,af⟩:=cp af;obtain⟨k,ab,af⟩:=cp af;cases af;obtain⟨rfl,aG⟩:=Mn ab hw;obtain⟨a,n,c,l,vs,rfl,a7,cr,ea⟩:=Sv h bk ad aa;obtain⟨ds,rfl,ls,lY⟩:=abl h bk l ea cr;exact⟨⟨ds,a,n,c,k⟩,rfl,rfl,⟨a7,lY,aG⟩,⟨ls,rfl⟩⟩
def abm(h:c8 Y D m I M)(bk:vj I M J):∀ (l:List ao) {vs:List Value} {cs:List h3},Mp Y.G m.t l=some cs->bN D l vs->∃ ds:List aQ,vs=ds.flatMap aQ.cells/\pX cs ds/\∀ d∈ds,d.ok J
 |[],vs,cs,af,ah=>by cases af;simp only[bN]at ah;exact⟨[],ah,.nil,by simp⟩
 |a::x::r::l,vs,cs,af,ah=>by
  unfold Mp at af;obtain⟨bM,aa,af⟩:=cp af;obtain⟨bm,ab,af⟩:=cp af;obtain⟨ds',ak,af⟩:=cp af;cases af;simp only[bN]at ah;obtain⟨_,_,ez,⟨_,_,cJ,⟨_,_,hc,mq,rfl⟩,rfl⟩,rfl⟩:=ah;obtain⟨rfl,aG⟩:=abj aa ez;obtain⟨t,rfl,rfl,a7,cr⟩:=anN h bk ab cJ hc;obtain⟨ds,rfl,ea,ls⟩:=abm h bk l ak mq;refine⟨⟨⟨bM.toArray⟩,t⟩::ds,rfl,.cons (c:=⟨bM,bm⟩) cr ea,λy aE=>?_⟩;rcases ee.1 aE with rfl | aE;·exact⟨aG,a7⟩
  ·exact ls y aE
def anO(h:c8 Y D m I M)(bk:vj I M J){x:ao}{cs:List h3}(af:Su Y.G m.t x=some cs)(ad:aT D x u):∃ g:cx,u=g.val/\g.ok J/\pX cs g.ds:=by
 unfold Su at af;split at af
 ·simp only[aT,bN]at ad;obtain⟨_,⟨y,_,ad,rfl,rfl⟩,rfl⟩:=ad;obtain⟨a,n,c,l,vs,rfl,a7,cr,ea⟩:=Sv h bk ad af;obtain⟨ds,rfl,ls,lY⟩:=abm h bk l ea cr;exact⟨⟨ds,a,n,c⟩,rfl,⟨a7,lY⟩,ls⟩
 ·cases af
end
noncomputable def wN(f g:Nat)(text:List UInt8):Option (List h3×Int×IntKind×Int):=bq (zT yf (lV yf f) g [.s text] ⟨.nil,0⟩) none λp=>match p.1 with
 | .t [x,.i .i64 a,.i k e]=>bq (Su L8 p.2.t x) none λc=>some (c,a,k,e)
 |_=>none
def anP(bs:fQ I eJ){g:Nat}{text:List UInt8}{c:List h3}{a:Int}{k:IntKind}{e:Int}(h:wN f g text=some (c,a,k,e)) :
  Spec Tryz.prog g [.string ⟨text.toArray⟩] I [] λr J mf=>mf=[]/\(∀ b o,I b=some o->J b=some o)/\∃ G:cx,r=.tuple #[G.val,.int .i64 a,.int k e]/\G.ok J/\pX c G.ds:=by
 unfold wN at h;obtain⟨⟨v,m'⟩,aa,h⟩:=cp h;refine Spec.qN (amX bs aa (us:=[.string ⟨text.toArray⟩]) (by simp[bN,aT])) ?_;rintro r J mf⟨rfl,bp,I',M',bC,ah,hm,bk⟩;refine⟨rfl,bp,?_⟩;simp only at h;split at h
 ·obtain⟨c',ab,h⟩:=cp h;cases h;simp only[aT,bN]at ah;obtain⟨_,⟨u,_,hu,⟨_,_,rfl,⟨_,_,rfl,rfl,rfl⟩,rfl⟩,rfl⟩,rfl⟩:=ah;obtain⟨G,rfl,a8,ba⟩:=anO hm bk ab hu;exact⟨G,rfl,a8,ba⟩
 ·cases h
def rZ.pl(c:rZ):an:=c.cd none 0 0
def wM.ih(c:wM):bR:=⟨c.ns.map rZ.pl,none,c.ns.length,0,c.bA⟩
def h3.SB(c:h3):aQ:=⟨⟨c.name.toArray⟩,c.t.ih⟩
def jD(cs:List h3):cx:=⟨cs.map h3.SB,none,cs.length,0⟩
def yk.a4{cs:List rZ}{ns:List an}(h:yk cs ns):ns.map an.a4=cs.map rZ.pl:=by
 induction h with
 |nil=>rfl| cons a n k t aN=>rw[cb,cb,aN];rfl
def yk.len{cs:List rZ}{ns:List an}(h:yk cs ns):ns.length=cs.length:=by
 induction h with
 |nil=>rfl| cons a n k t aN=>simp[aN]
def Ix.a4{c:wM}(h:Ix c t)(av:t.ok I):t.a4=c.ih:=by unfold bR.a4 wM.ih;rw[h.ns.a4,h.bA,<-av.n,h.ns.len]
def pX.a4{cs:List h3}{ds:List aQ}(h:pX cs ds)(aj:∀ d∈ds,d.ok I):ds.map aQ.a4=cs.map h3.SB:=by
 induction h with
 |nil=>rfl| cons h k aN=>rw[cb,cb,aN λd fy=>aj d (.tail _ fy)];congr 1;unfold aQ.a4 h3.SB;rw[h.a4 (aj _ (.head _)).t]
def pX.len{cs:List h3}{ds:List aQ}(h:pX cs ds):ds.length=cs.length:=by
 induction h with
 |nil=>rfl| cons h k aN=>simp[aN]
def E0{cs:List h3}(h:pX cs g.ds)(au:g.ok I):g.a4=jD cs:=by unfold cx.a4 jD;rw[h.a4 au.ds,<-au.n,h.len]
def anQ(c:wM):Bool:=c.ns.all λn=>decide (n.ax.length<=1000)
def anR{c:wM}(h:Ix c t)(av:t.ok I)(ae:anQ c=true):u7 t:=λn aB=>by
 have aa:=(av.ns n aB).aL;have ab:n.a4∈c.ns.map rZ.pl:=by rw[<-h.ns.a4];exact cC.2 ⟨n,aB,rfl⟩
 obtain⟨x,ad,e⟩:=cC.1 ab;have ak:=dh (fx.1 ae x ad);have aJ:x.ax=n.ax:=congrArg an.ax e;rw[aJ]at ak;omega
def anS{cs:List h3}{ds:List aQ}(h:pX cs ds)(aj:∀ d∈ds,d.ok I)(ae:(cs.all λd=>d.t.ns.all λn=>decide (n.ax.length<=1000))=true):∀ d∈ds,u7 d.t:=by
 induction h with
 |nil=>intro d aj;cases aj
 |cons h k aN=>
  simp only[w4,cB]at ae;intro d hm;rcases ee.1 hm with rfl | hm;·exact anR h (aj _ (.head _)).t ae.1
  ·exact aN (λd fy=>aj d (.tail _ fy)) (by simpa using ae.2) d hm
def SC(ds:List aQ)(F:List aU)(i:Nat):jC (ds.map aQ.a4) F i=jC ds F i:=by
 unfold jC;rw[iG,Eb];cases ds[i]? with
 |none=>rfl| some d=>show(ga (bD ds) F (d.t.ns.map an.a4) d.t.bA).2=_;rw[aj0]
def anT(ds:List aQ)(F:List aU)(i:Nat):pU (ds.map aQ.a4) F i=pU ds F i:=by
 unfold pU;rw[iG,Eb];cases ds[i]? with
 |none=>rfl| some d=>show(o9 (bD ds) F (d.t.ns.map an.a4) d.t.bA).2=_;rw[anr]
def anU(ds:List aQ)(F:List aU):pT (ds.map aQ.a4) F=pT ds F:=by funext i;unfold pT;rw[bF,SC]
def SD(ds:List aQ)(F:List aU):pV (ds.map aQ.a4) F=pV ds F:=by unfold pV;rw[bF];exact F6 λi _=>anT ds F i
def anV(ds:List aQ)(F:List aU):Cx (ds.map aQ.a4) F=Cx ds F:=by unfold Cx;rw[bF,anU]
def abn{ds:List aQ}{l:List aU}(h:jM (ds.map aQ.a4) l):jM ds l:=by
 refine⟨by rw[h.len,bF],λi hi=>?_,λm hm ap=>?_⟩
 ·have:=h.fix i (by simpa using hi);rwa [Eb,g7,K6]at this
 ·refine h.least m (by rw[hm,bF]) λi hi=>?_;rw[Eb,g7,K6];exact ap i (by simpa using hi)
def Mq(ds:List aQ)(F:List aU):Int×Int:=bif decide (0<(Cx ds F).length)then((((Cx ds F).headD 0:Nat):Int),42)else bif decide (0<(pV ds F).length)then((((pV ds F).headD 0:Nat):Int),43)else(0,0)
structure Iz(cs:List h3)(F:List aU):Prop where
 may:dm eJ (jD cs)=0
 IA:jM (jD cs).ds F
 Xh:(cs.all λd=>d.t.ns.all λn=>decide (n.ax.length<=1000))=true
def Iz.of{cs:List h3}(dX:Iz cs F)(au:g.ok I)(aW:pX cs g.ds):dm eJ g=0/\jM g.ds F/\(∀ d∈g.ds,u7 d.t):=by
 have eb:=E0 aW au;have gi:g.ds.map aQ.a4=(jD cs).ds:=congrArg cx.ds eb;have hm:dm eJ g=0:=by rw[<-zJ,eb];exact dX.may
 refine⟨hm,?_,anS aW au.ds dX.Xh⟩;have:=dX.IA;rw[<-gi]at this;exact abn this
def abo{cs:List h3}(dX:Iz cs F)(au:g.ok I)(aW:pX cs g.ds)(h:m8 eJ g r):r=Mq (jD cs).ds F:=by
 obtain⟨hm,bG,-⟩:=dX.of au aW;have gi:g.ds.map aQ.a4=(jD cs).ds:=congrArg cx.ds (E0 aW au);have a':=K3 au.n hm;rcases h with⟨a,-⟩ | ⟨-,dk,oj,rfl⟩
 ·exact absurd hm a
 ·obtain rfl:=bG.unique oj;rw[<-gi,Mq,anV,SD,anC a'];by_cases aa:0<(rY g.ds F).length
  ·rw[bQ aa,fu aa,ca]
  ·rw[bU aa,eB aa,b'];by_cases ab:0<(pV g.ds F).length
   ·rw[bQ ab,fu ab,ca]
   ·rw[bU ab,eB ab,b']
def IB(ds:List aQ):Nat->List aU->List aU
 |0,L=>L| k+1,L=>IB ds k (ds.map (ie (bD ds) L))
def abp{ds:List aQ}:∀ (k:Nat) {L:List aU},oX ds L->ds.map (ie (bD ds) (IB ds k L))=IB ds k L->jM ds (IB ds k L)
 |0,L,aC,h=>by refine⟨aC.len,λi hi=>?_,aC.least⟩;have:=Mg (f:=ie (bD ds) L) hi;have aa:ds.map (ie (bD ds) L)=L:=h;rw[aa]at this;exact this
 |k+1,L,aC,h=>abp k aC.all.1 h
def yl(cs:List h3)(k:Nat):List aU:=IB (jD cs).ds k (List.replicate (jD cs).ds.length bY)
def E1(cs:List h3)(F:List aU)(k:Nat):Bool:=decide (dm eJ (jD cs)=0)&&(decide (yl cs k=F)&&(decide ((jD cs).ds.map (ie (bD (jD cs).ds) F)=F)&&cs.all λd=>d.t.ns.all λn=>decide (n.ax.length<=1000)))
def SE{cs:List h3}{k:Nat}(h:E1 cs F k=true):Iz cs F:=by simp only[E1,cB,hR]at h;obtain⟨aa,ab,ak,aJ⟩:=h;refine⟨aa,?_,by simpa using aJ⟩;have:=abp k (oX.start (jD cs).ds);unfold yl at ab;rw[ab]at this;exact this ak
section
end
section
end
def Ak(p:Nat->Bool)(n:Nat):List Int:=((List.range n).filter p).map λ(k:Nat)=>(k:Int)
def abq{ds:List aQ}{n:Nat}(aB:ds.length=n):∀ (names:List ByteArray) (s:List Bool),s.length=n->∀ k,k<n->((names.foldl (λs nm=>rG n s (ct nm ds 0)) s).getD k false=true ↔ s.getD k false=true\/∃ nm∈names,ct nm ds 0=(k:Int))
 |[],s,ar,k,ae=>by simp
 |nm::names,s,ar,k,ae=>by
  rw[jn,abq aB names _ (by rw[Wx];exact ar) k ae];have hm:(rG n s (ct nm ds 0)).getD k false=true ↔ s.getD k false=true\/ct nm ds 0=(k:Int):=by
   unfold rG;cases ag:decide (0<=ct nm ds 0)&&decide (ct nm ds 0<n)with
   |true=>
    rw[ca];simp at ag;simp only[bz,ia];by_cases e:(ct nm ds 0).toNat=k
    ·have:ct nm ds 0=(k:Int):=by omega
     simp[e,this,ar,ae]
    ·have:¬ ct nm ds 0=(k:Int):=by omega
     simp[e,this]
   |false=>
    rw[b'];have:¬ ct nm ds 0=(k:Int):=by intro e;rw[e]at ag;simp at ag;omega
    simp[this]
  rw[hm];constructor
  ·rintro((h | h) | ⟨x,ad,h⟩)
   ·exact .inl h
   ·exact .inr ⟨nm,by simp,h⟩
   ·exact .inr ⟨x,by simp[ad],h⟩
  ·rintro(h | ⟨x,ad,h⟩)
   ·exact .inl (.inl h)
   ·rcases ee.1 ad with rfl | ad
    ·exact .inl (.inr h)
    ·exact .inr ⟨x,ad,h⟩
def E2{nm:ByteArray}:∀ (ds:List aQ) (i k:Nat),ct nm ds i=(k:Int)->∃ j,∃ (h:j<ds.length),k=i+j/\ds[j].name=nm
 |[],i,k,h=>by unfold ct at h;omega
 |d::ds,i,k,h=>by
  unfold ct at h;cases ap:decide (d.name=nm)with
  |true=>rw[ap,ca]at h;exact⟨0,by simp,by omega,by simpa using ap⟩| false=>rw[ap,b']at h;obtain⟨j,ai,aG,a7⟩:=E2 ds (i+1) k h;exact⟨j+1,by simp;omega,by omega,by simpa using a7⟩
def anW(aB:g.ds.length=g.n)(h:dm aw g=0):∀ i (hi:i<g.ds.length),ct g.ds[i].name g.ds 0=(i:Int):=by
 rw[<-Se]at h;intro i hi;have gq:(List.range g.ds.length).all (m7 g.ds)=true:=by
  unfold Ir at h;cases ag:(List.range g.ds.length).all (m7 g.ds)with
  |true=>rfl
  |false=>
   rw[ag]at h;exfalso;revert h;cases decide ((g.n:Int)=0)<;>cases(!nF g.ds)<;>cases oN aw g<;>simp
 have:=fx.1 gq i (g'.2 hi);rw[ana hi]at this;simpa using this
def m8.get(hm:dm aw g=0)(h:m8 aw g r):r.2=0 ↔ (rY g.ds (Mj g.ds)).length=0/\(pV g.ds (Mj g.ds)).length=0:=by
 rcases h with⟨a,-⟩ | ⟨-,F,c,rfl⟩
 ·exact absurd hm a
 ·rw[Sr c];by_cases aa:0<(rY g.ds F).length
  ·rw[bQ aa];simp only;omega
  ·rw[bU aa];by_cases ab:0<(pV g.ds F).length
   ·rw[bQ ab];simp only;omega
   ·rw[bU ab];exact⟨λ_=>⟨by omega,by omega⟩,λ_=>rfl⟩
def abr(bs:fQ I aw)(av:t.ok I)(af:right t=true){r:Nat}(fz:t.bA=(r:Int))(fa:r<t.ns.length):Spec Tryz.prog 32 [t.val] I M0 λv I' M'=>v=(t.ns[r].eC []).val/\I'=I/\M'=M0:=by refine bZ [] a5 Tryz.func32 rfl rfl rfl ?_;intro B az;have ic:=av.n;obtain⟨aS,bH,bl⟩:=av.a0.row an.cS (show r<t.n by omega) fa;generalize t.ns[r]=d at bl;refine bc.mk [] M0 _ (.refl _) (qm bs.c av) ?_;rintro v J N -⟨rfl,rfl,rfl⟩;refine aZ.mk (λh=>absurd h (by simp[af])) (λ_=>?_);refine bf.mk aS r bH fz (by omega) ?_;refine aO.mk _ (bl _) ?_;exact⟨_,_,.refl,rfl,rfl,rfl⟩
def aX.lE(bG:vj I M J){xs:List Value}(h:os.ok size xs)(a':∀ x∈os.aq e,x∈M)(ag:os.n*b<=140737488355328):c3 J (os.a.map λg=>⟨g,0,none⟩) os.n os.c size b xs:=by
 obtain⟨a,n,c,aR⟩:=os;cases a with
 |none=>obtain⟨aa,ab⟩:=h.nil rfl;exact⟨h.len,⟨by simp only at aa ab |-;omega,ag⟩,.inl aa⟩
 |some g=>obtain⟨aa,ab,ak,aJ⟩:=h.cap g rfl;exact⟨h.len,⟨ab,ag⟩,.inr ⟨⟨g,0,none⟩,rfl,rfl,aR.toArray,e,(0,0),bG.aL _ _ (.inr ⟨⟨g,.cells aR.toArray e (0,0)⟩,a' _ (.head _),rfl,rfl⟩),by simpa using aJ⟩⟩
def c3.Cy{c:Nat}(h:c3 I a n c size b vs)(M:List aD)(az:0<n):∃ aS,a=some aS/\cM I M aS (n*size) vs:=by
 rcases h.rd with aa | ⟨aS,aa,ab,cs,T,al,ak,aJ⟩
 ·omega
 ·exact⟨aS,aa,ab,cs,T,al,.inl ak,aJ,h.len⟩
def IC(l:List Int):gm (l.map (.int .i64 ·))=true:=fx.2 λv ah=>by obtain⟨k,_,rfl⟩:=cC.1 ah;rfl
def abt{f:α->List Value}(h:∀ x,gm (f x)=true)(l:List α):gm (l.flatMap f)=true:=fx.2 λv ah=>by obtain⟨x,_,ad⟩:=hy.1 ah;exact fx.1 (h x) v ad
def an.one(d:an):gm d.cells=true:=rfl
def aQ.one(d:aQ):gm d.cells=true:=rfl
def anX{c:Nat}(h:c3 I a n c 1 8 vs)(aa:gm vs=true):Spec Tryz.prog 117 [.slice a n c] I M0 λv I' M'=>I'=I/\∃ os:aX,os.n=n/\os.ok 1 vs/\v=os.val/\M'=os.aq 3++M0:=by
 refine bZ [] a5 Tryz.func117 rfl rfl rfl ?_;intro B az;have ju:=h.cap;refine gn.Rs a5 rfl rfl ?_;refine aZ.mk (λap=>?_) (λap=>?_)
 ·have aB:n=0:=by
   rcases h.rd with ab | ⟨aS,ab,_⟩;·exact ab
   ·rw[ab]at ap;cases ap
  subst aB;have ak:vs=[]:=iK (by rw[h.len,yZ]);subst ak;exact⟨_,_,.refl,rfl,hZ,rfl,lv 1,rfl,rfl⟩
 refine bX.mk λb ag sj=>?_;refine bw.Eg a5 rfl (by simp) (e:=3) rfl rfl rfl ⟨some b,0,0,[]⟩ (xs:=[]) ⟨rfl,(λh=>by cases h),(λg h=>⟨rfl,cc _,dz _,rfl⟩)⟩ rfl (sa:=a) (m:=n) (c':=c) (b8:=vs) rfl h.len (h.Cy _) aa [] M0 rfl (by simp only;omega) (by show(0+n)*8<=_;omega) ?_;intro os aB bt bu;rw[iq]at bu;exact⟨_,_,.refl,rfl,os,aB.trans (db n),bu,rfl,rfl⟩
def anY{c:Nat}(h:c3 I a n c 1 8 vs)(aa:gm vs=true):Spec Tryz.prog 117 [.slice a n c] I M0 λv I' M'=>(∀ b o,I b=some o->I' b=some o)/\M'=M0/\∃ bM c',v=.slice bM n c'/\c3 I' bM n c' 1 8 vs:=by refine Spec.qN (Spec.frame (Spec.lE (anX (M0:=[]) h aa))) ?_;rintro v J M⟨M',rfl,-,bk,rfl,-,I',M1,⟨rfl,os,rfl,bS,rfl,rfl⟩,bG⟩;have ju:=h.cap;exact⟨bk,rfl,_,_,rfl,aX.lE bG bS (λz bb=>jr _ bb) ju.2⟩
def anZ{c:Nat}(h:c3 I a n c 9 96 vs)(aa:gm vs=true):Spec Tryz.prog 116 [.slice a n c] I M0 λv I' M'=>I'=I/\∃ os:aX,os.n=n/\os.ok 9 vs/\v=os.val/\M'=os.aq 66++M0:=by
 refine bZ [] a5 Tryz.func116 rfl rfl rfl ?_;intro B az;have ju:=h.cap;refine gn.Rs a5 rfl rfl ?_;refine aZ.mk (λap=>?_) (λap=>?_)
 ·have aB:n=0:=by
   rcases h.rd with ab | ⟨aS,ab,_⟩;·exact ab
   ·rw[ab]at ap;cases ap
  subst aB;have ak:vs=[]:=iK (by rw[h.len,yZ]);subst ak;exact⟨_,_,.refl,rfl,hZ,rfl,lv 9,rfl,rfl⟩
 refine bX.mk λb ag sj=>?_;refine bw.Eg a5 rfl (by simp) (e:=66) rfl rfl rfl ⟨some b,0,0,[]⟩ (xs:=[]) ⟨rfl,(λh=>by cases h),(λg h=>⟨rfl,cc _,dz _,rfl⟩)⟩ rfl (sa:=a) (m:=n) (c':=c) (b8:=vs) rfl h.len (h.Cy _) aa [] M0 rfl (by simp only;omega) (by show(0+n)*96<=_;omega) ?_;intro os aB bt bu;rw[iq]at bu;exact⟨_,_,.refl,rfl,os,aB.trans (db n),bu,rfl,rfl⟩
def an0{c:Nat}(h:c3 I a n c 3 48 vs)(aa:gm vs=true):Spec Tryz.prog 115 [.slice a n c] I M0 λv I' M'=>I'=I/\∃ os:aX,os.n=n/\os.ok 3 vs/\v=os.val/\M'=os.aq 35++M0:=by
 refine bZ [] a5 Tryz.func115 rfl rfl rfl ?_;intro B az;have ju:=h.cap;refine gn.Rs a5 rfl rfl ?_;refine aZ.mk (λap=>?_) (λap=>?_)
 ·have aB:n=0:=by
   rcases h.rd with ab | ⟨aS,ab,_⟩;·exact ab
   ·rw[ab]at ap;cases ap
  subst aB;have ak:vs=[]:=iK (by rw[h.len,yZ]);subst ak;exact⟨_,_,.refl,rfl,hZ,rfl,lv 3,rfl,rfl⟩
 refine bX.mk λb ag sj=>?_;refine bw.Eg a5 rfl (by simp) (e:=35) rfl rfl rfl ⟨some b,0,0,[]⟩ (xs:=[]) ⟨rfl,(λh=>by cases h),(λg h=>⟨rfl,cc _,dz _,rfl⟩)⟩ rfl (sa:=a) (m:=n) (c':=c) (b8:=vs) rfl h.len (h.Cy _) aa [] M0 rfl (by simp only;omega) (by show(0+n)*48<=_;omega) ?_;intro os aB bt bu;rw[iq]at bu;exact⟨_,_,.refl,rfl,os,aB.trans (db n),bu,rfl,rfl⟩
structure an1(I:aI)(t:bR)(os0:aX)(x:Nat×aX×List an×aI):Prop where
 i:x.1<=t.n
 ok:x.2.1.ok 9 (x.2.2.1.flatMap an.cells)
 a4:x.2.2.1.map an.a4=t.ns.map an.a4
 ns:∀ d∈x.2.2.1,d.ok x.2.2.2
 le:∀ b o,I b=some o->x.2.2.2 b=some o
 a:x.2.1.a=os0.a
 v:x.2.1.val=os0.val
def an2{L:List an}{i:Nat}(hi:i<L.length){d:an}(h:d.a4=L[i].a4):(L.set i d).map an.a4=L.map an.a4:=by
 rw[sd,h];refine zg λj=>?_;rw[ia];split
 ·rename_i e;subst e;rw[bF,bQ hi,iG,da hi];rfl
 ·rfl
def ID{br:aX}(h:os.val=br.val):os.n=br.n/\os.c=br.c:=by
 unfold aX.val at h;injection h with aa ab ak
 exact⟨ab,ak⟩
def an3(av:t.ok I):Spec Tryz.prog 64 [t.val] I [] λv I' M'=>(∀ b o,I b=some o->I' b=some o)/\∃ (os:aX) (L:List an),v=.agg #[os.val,.int .i64 t.bA]/\os.n=t.n/\os.ok 9 (L.flatMap an.cells)/\M'=os.aq 66/\L.map an.a4=t.ns.map an.a4/\∀ d∈L,d.ok I':=by
 refine bZ [] a5 Tryz.func64 rfl rfl rfl ?_;intro B az;have ic:=av.n;have ju:=av.a0.cap;refine bc.whole _ (anZ av.a0 (abt an.one _)) ?_;rintro v J N -⟨rfl,os0,an4,zx,rfl,iD⟩;subst N;refine de.inv (ι:=Nat×aX×List an×aI) (λx=>{ bj:=[(1,.ref 1 0),(2,.ref 2 0),(10,.val os0.val),(11,.val (.int .i64 os0.n)),(12,.val (.int .i64 x.1))],cl:=[(1,[os0.val,.int .i64 t.bA]),(2,[.slice none 0 0,.int .i64 0])],cI:=x.2.2.2,c1:=x.2.1.aq 66++[] }) (λx=>an1 J t os0 x) (λx=>t.n-x.1) ?_ ?_
 ·exact⟨(0,os0,t.ns,J),⟨dz _,zx,rfl,av.ns,λ_ _ h=>h,rfl,rfl⟩,.refl,gf,.cons rfl (.cons rfl (.nil))⟩
 rintro⟨i,os,L,K⟩⟨hi,bS,eb,me,bp,sN,pc⟩;simp only at hi bS eb me bp sN pc;have abu:L.length=t.ns.length:=by simpa using congrArg List.length eb
 obtain⟨jj,abv⟩:=ID pc;refine aZ.mk (λh=>?_) (λh=>?_)
 rotate_left
 ·exact⟨_,_,.refl,bp,os,L,by rw[pc];rfl,by omega,bS,by rw[ef],eb,me⟩
 have aV:i<t.n:=by have:(i:Int)<(os0.n:Int):=dh h;omega
 have qI:i<L.length:=by omega
 obtain⟨aS,bH,bl⟩:=aX.ok.row (I:=K) (M:=os.aq 66++[]) (e:=66) an.cS (by decide) bS (λz bb=>jr _ bb) qI;have Al:=me _ (bx qI);have sO:=bH;rw[sN]at sO;refine bf.mk aS i sO rfl (by omega) ?_;refine aO.mk _ bl ?_;refine cY.draw a5 rfl rfl rfl ?_;refine eL.whole _ (anY Al.a0 (IC _)) (λv I' M' h x ad=>by rw[h.2.1];exact ad) ?_;rintro v iS N -⟨ym,iD,bM,c',rfl,er⟩;subst N;refine bf.mk aS i sO rfl (by omega) ?_;have e4:({ L[i]with dy:=bM,dq:=c' }:an).ok iS:={ Al.mono ym with a0:=er };have SF:({ L[i]with dy:=bM,dq:=c' }:an).a4=L[i].a4:=rfl;have gW:=an2 qI SF;refine aX.LG (e:=66) an.cells 9 an.cS bS qI 8 (vs:=[.slice bM L[i].aL c']) (bJ rfl) rfl { L[i]with dy:=bM,dq:=c' } rfl [] [] (by simp) bH ?_;intro kd np oT n7 mg;refine bg.mk _ (cK (i:=i) (by omega)) ?_;refine⟨(i+1,kd,L.set i { L[i]with dy:=bM,dq:=c' },iS),⟨⟨aV,mg,gW.trans eb,λd aj=>?_,λb o h=>ym _ _ (bp _ _ h),oT.trans sN,np.trans pc⟩,by simp only;omega⟩,.refl,gf,.cons rfl (.cons rfl (.nil))⟩;rcases Ae aj with aj | rfl
 ·exact(me _ aj).mono ym
 ·exact e4
def abw(av:t.ok I):Spec Tryz.prog 64 [t.val] I M0 λv I' M'=>(∀ b o,I b=some o->I' b=some o)/\M'=M0/\∃ bm:bR,v=bm.val/\bm.ok I'/\bm.a4=t.a4:=by refine Spec.qN (Spec.frame (Spec.lE (an3 av))) ?_;rintro v J M⟨M',rfl,-,bk,rfl,-,I',M1,⟨aa,os,L,rfl,aB,bS,rfl,eb,me⟩,bG⟩;have ju:=av.a0.cap;refine⟨bk,rfl,⟨L,os.a.map λg=>⟨g,0,none⟩,os.n,os.c,t.bA⟩,rfl,⟨aX.lE bG bS (λ_ h=>h) (by omega),λd aj=>(me d aj).mono bG.le,av.bA⟩,?_⟩;unfold bR.a4;rw[eb,aB]
structure an5(I:aI)(g:cx)(os0:aX)(x:Nat×aX×List aQ×aI):Prop where
 i:x.1<=g.n
 ok:x.2.1.ok 3 (x.2.2.1.flatMap aQ.cells)
 a4:x.2.2.1.map aQ.a4=g.ds.map aQ.a4
 ds:∀ d∈x.2.2.1,d.ok x.2.2.2
 le:∀ b o,I b=some o->x.2.2.2 b=some o
 a:x.2.1.a=os0.a
 v:x.2.1.val=os0.val
def an6{L:List aQ}{i:Nat}(hi:i<L.length){d:aQ}(h:d.a4=L[i].a4):(L.set i d).map aQ.a4=L.map aQ.a4:=by
 rw[sd,h];refine zg λj=>?_;rw[ia];split
 ·rename_i e;subst e;rw[bF,bQ hi,iG,da hi];rfl
 ·rfl
def an7(au:g.ok I):Spec Tryz.prog 63 [g.val] I [] λv I' M'=>(∀ b o,I b=some o->I' b=some o)/\∃ (os:aX) (L:List aQ),v=.agg #[os.val]/\os.n=g.n/\os.ok 3 (L.flatMap aQ.cells)/\M'=os.aq 35/\L.map aQ.a4=g.ds.map aQ.a4/\∀ d∈L,d.ok I':=by
 refine bZ [] a5 Tryz.func63 rfl rfl rfl ?_;intro B az;have fM:=au.n;have ju:=au.a0.cap;refine bc.whole _ (an0 au.a0 (abt aQ.one _)) ?_;rintro v J N -⟨rfl,os0,an4,zx,rfl,iD⟩;subst N;refine de.inv (ι:=Nat×aX×List aQ×aI) (λx=>{ bj:=[(1,.ref 1 0),(2,.ref 2 0),(10,.val os0.val),(11,.val (.int .i64 os0.n)),(12,.val (.int .i64 x.1))],cl:=[(1,[os0.val]),(2,[.slice none 0 0])],cI:=x.2.2.2,c1:=x.2.1.aq 35++[] }) (λx=>an5 J g os0 x) (λx=>g.n-x.1) ?_ ?_
 ·exact⟨(0,os0,g.ds,J),⟨dz _,zx,rfl,au.ds,λ_ _ h=>h,rfl,rfl⟩,.refl,gf,.cons rfl (.cons rfl (.nil))⟩
 rintro⟨i,os,L,K⟩⟨hi,bS,eb,gi,bp,sN,pc⟩;simp only at hi bS eb gi bp sN pc;have abu:L.length=g.ds.length:=by simpa using congrArg List.length eb
 obtain⟨jj,abv⟩:=ID pc;refine aZ.mk (λh=>?_) (λh=>?_)
 rotate_left
 ·exact⟨_,_,.refl,bp,os,L,by rw[pc];rfl,by omega,bS,by rw[ef],eb,gi⟩
 have aV:i<g.n:=by have:(i:Int)<(os0.n:Int):=dh h;omega
 have qI:i<L.length:=by omega
 obtain⟨aS,bH,bl⟩:=aX.ok.row (I:=K) (M:=os.aq 35++[]) (e:=35) aQ.cS (by decide) bS (λz bb=>jr _ bb) qI;have Al:=gi _ (bx qI);have sO:=bH;rw[sN]at sO;refine bf.mk aS i sO rfl (by omega) ?_;refine aO.mk _ bl ?_;refine cY.draw a5 rfl rfl rfl ?_;refine eL.whole _ (abw Al.t) (λv I' M' h x ad=>by rw[h.2.1];exact ad) ?_;rintro v iS N -⟨ym,iD,bm,rfl,sP,SG⟩;subst N;refine bf.mk aS i sO rfl (by omega) ?_;have e4:(⟨L[i].name,bm⟩:aQ).ok iS:=⟨Al.name,sP⟩;have SF:(⟨L[i].name,bm⟩:aQ).a4=L[i].a4:=by unfold aQ.a4;rw[SG]
 have gW:=an6 qI SF;refine aX.LG (e:=35) aQ.cells 3 aQ.cS bS qI 1 (vs:=[.slice bm.a bm.n bm.c,.int .i64 bm.bA]) (bJ rfl) rfl ⟨L[i].name,bm⟩ rfl [] [] (by simp) bH ?_;intro kd np oT n7 mg;refine bg.mk _ (cK (i:=i) (by omega)) ?_;refine⟨(i+1,kd,L.set i ⟨L[i].name,bm⟩,iS),⟨⟨aV,mg,gW.trans eb,λd aj=>?_,λb o h=>ym _ _ (bp _ _ h),oT.trans sN,np.trans pc⟩,by simp only;omega⟩,.refl,gf,.cons rfl (.cons rfl (.nil))⟩;rcases Ae aj with aj | rfl
 ·exact(gi _ aj).mono ym
 ·exact e4
def an8(au:g.ok I):Spec Tryz.prog 63 [g.val] I M0 λv I' M'=>(∀ b o,I b=some o->I' b=some o)/\∃ (os:aX) (L:List aQ),v=.agg #[os.val]/\os.n=g.n/\os.ok 3 (L.flatMap aQ.cells)/\M'=os.aq 35++M0/\L.map aQ.a4=g.ds.map aQ.a4/\∀ d∈L,d.ok I':=by refine Spec.qN (Spec.frame (an7 au)) ?_;rintro v J M⟨M',rfl,-,bk,aa,os,L,rfl,aB,bS,rfl,eb,gi⟩;exact⟨bk,os,L,rfl,aB,bS,rfl,eb,gi⟩
def an9(au:g.ok I){u:Nat}(hu:u<g.ds.length)(aB:g.n<=1000000)(av:t.ok I):Spec Tryz.prog 16 [g.val,.int .i64 u,t.val] I [] λv I' M'=>(∀ b o,I b=some o->I' b=some o)/\∃ (os:aX) (L:List aQ),v=.tuple #[.agg #[os.val],.bool true]/\os.n=g.n/\os.ok 3 (L.flatMap aQ.cells)/\M'=os.aq 35/\L.map aQ.a4=(g.ds.set u ⟨g.ds[u].name,t⟩).map aQ.a4/\∀ d∈L,d.ok I':=by
 refine bZ [] a5 Tryz.func16 rfl rfl rfl ?_;intro B az;have fM:=au.n;refine cq.mk (λ_=>?_) (λh=>absurd h (by simp));refine aZ.mk (λh=>?_) (λ_=>?_)
 ·have:(g.n:Int)<=(u:Int):=dh h;omega
 refine bc.whole _ (an8 au) ?_;rintro v J N -⟨bk,os,L,rfl,jj,bS,iD,eb,gi⟩;subst N;have abu:L.length=g.ds.length:=by simpa using congrArg List.length eb
 have Ms:u<L.length:=by omega
 refine cY.draw a5 rfl rfl rfl ?_;refine eL.whole _ (abw (av.mono bk)) (λv I' M' h x ad=>by rw[h.2.1];exact ad) ?_;rintro v iS N -⟨ym,iD,bm,rfl,sP,SG⟩;subst N;obtain⟨aS,bH,bl⟩:=aX.ok.row (I:=iS) (M:=os.aq 35++[]) (e:=35) aQ.cS (by decide) bS (λz bb=>jr _ bb) Ms;have nV:L[u].a4=g.ds[u].a4:=by
  have aa:(L.map aQ.a4)[u]?=(g.ds.map aQ.a4)[u]?:=by rw[eb]
  rw[iG,iG,da Ms,da hu]at aa;exact fw aa
 have h9:L[u].name=g.ds[u].name:=by have aa:L[u].a4.name=g.ds[u].a4.name:=congrArg aQ.name nV;exact aa
 have e4:(⟨L[u].name,bm⟩:aQ).ok iS:=⟨(gi _ (bx Ms)).name,sP⟩;refine bf.mk aS u bH rfl (show u<os.n by omega) ?_;refine aX.LG (e:=35) aQ.cells 3 aQ.cS bS Ms 1 (vs:=[.slice bm.a bm.n bm.c,.int .i64 bm.bA]) (bJ rfl) rfl ⟨L[u].name,bm⟩ rfl [] [] (by simp) bH ?_;intro kd np oT n7 mg;refine⟨_,_,.refl,λb o h=>ym _ _ (bk _ _ h),kd,L.set u ⟨L[u].name,bm⟩,by rw[np];rfl,by omega,mg,by simp,?_,λd aj=>?_⟩
 ·rw[sd,sd,eb];congr 1;unfold aQ.a4;rw[SG,h9]
 ·rcases Ae aj with aj | rfl
  ·exact(gi _ aj).mono ym
  ·exact e4
def aoa(au:g.ok I){u:Nat}(hu:u<g.ds.length)(aB:g.n<=1000000)(av:t.ok I):Spec Tryz.prog 16 [g.val,.int .i64 u,t.val] I M0 λv I' M'=>(∀ b o,I b=some o->I' b=some o)/\M'=M0/\∃ h:cx,v=.tuple #[h.val,.bool true]/\h.ok I'/\h.n=g.n/\h.ds.map aQ.a4=(g.ds.set u ⟨g.ds[u].name,t⟩).map aQ.a4:=by refine Spec.qN (Spec.frame (Spec.lE (an9 au hu aB av))) ?_;rintro v J M⟨M',rfl,-,bk,rfl,-,I',M1,⟨aa,os,L,rfl,jj,bS,rfl,eb,gi⟩,bG⟩;exact⟨bk,rfl,⟨L,os.a.map λg=>⟨g,0,none⟩,os.n,os.c⟩,rfl,⟨aX.lE bG bS (λ_ h=>h) (by omega),λd aj=>(gi d aj).mono bG.le⟩,jj,eb⟩
def kh(z:Int):List Value:=[.int .i64 z]
def qS:∀ l:List Int,l.flatMap kh=l.map (.int .i64 ·)
 |[]=>rfl| z::l=>by rw[kr,qS l];rfl
structure aob(fq:List Int)(I:aI)(os0:aX)(x:Nat×aX×List Int):Prop where
 i:2*x.1<=fq.length+1
 ok:x.2.1.ok 1 (x.2.2.flatMap kh)
 len:x.2.2.length=fq.length
 dU:∀ k,k<fq.length->x.2.2[k]?=if k<x.1\/fq.length<=k+x.1 then fq[fq.length-1-k]? else fq[k]?
 a:x.2.1.a=os0.a
 v:x.2.1.val=os0.val
def abx{os0:aX}{fq:List Int}(zx:os0.ok 1 (fq.map (.int .i64 ·)))(ag:os0.n<=1099511627776):Spec Tryz.prog 114 [os0.val] I (os0.aq 3++M0) λv I' M'=>I'=I/\∃ br:aX,br.val=os0.val/\br.ok 1 (fq.reverse.map (.int .i64 ·))/\M'=br.aq 3++M0:=by
 refine bZ [] a5 Tryz.func114 rfl rfl rfl ?_;intro B az;have rN:=zx.mX;refine bg.mk ((fq.length:Int)-1) (by show IntKind.i64.wrap ((os0.n:Int)-1)=_;rw[wrap_i64 ⟨by omega,by omega⟩,rN]) ?_;refine de.inv (ι:=Nat×aX×List Int) (λx=>{ bj:=[(0,.val os0.val),(2,.val (.int .i64 x.1)),(3,.val (.int .i64 ((fq.length:Int)-1-x.1)))],cl:=[],cI:=I,c1:=x.2.1.aq 3++M0 }) (λx=>aob fq I os0 x) (λx=>fq.length-x.1) ?_ ?_
 ·refine⟨(0,os0,fq),⟨by simp,by rw[qS];exact zx,rfl,λk ae=>?_,rfl,rfl⟩,.refl,.cons .refl (.cons .refl (.cons ?_ .nil)),.nil⟩
  ·simp only;rw[bU (by omega)]
  ·simp only[Int.ofNat_zero,Int.sub_zero];exact .refl
 rintro⟨i,os,l⟩⟨hi,bS,c2,fb,sN,pc⟩;simp only at hi bS c2 fb sN pc;obtain⟨jj,abv⟩:=ID pc;refine aZ.mk (λh=>?_) (λh=>?_)
 rotate_left
 ·have cA:¬ (i:Int)<(fq.length:Int)-1-i:=dO h;refine⟨_,_,.refl,rfl,os,pc,?_,rfl⟩;have e:l=fq.reverse:=by
   refine zg λk=>?_;by_cases ae:k<fq.length
   ·rw[fb k ae,List.getElem?_reverse ae];split
    ·rfl
    ·congr 1;omega
   ·rw[qa (by omega),qa (by rw[Ct];omega)]
  rw[<-e,<-qS];exact bS
 have aV:(i:Int)<(fq.length:Int)-1-i:=dh h;obtain⟨j,ai⟩:∃ j:Nat,(fq.length:Int)-1-i=(j:Int):=⟨fq.length-1-i,by omega⟩;have dI:i<l.length:=by omega
 have eM:j<l.length:=by omega
 obtain⟨aS,bH,Cz⟩:=aX.ok.row (I:=I) (M:=os.aq 3++M0) (e:=3) (f:=kh) (size:=1) (λ_=>rfl) (by decide) bS (λz bb=>jr _ bb) eM;obtain⟨y2,CA,Pv⟩:=aX.ok.row (I:=I) (M:=os.aq 3++M0) (e:=3) (f:=kh) (size:=1) (λ_=>rfl) (by decide) bS (λz bb=>jr _ bb) dI;obtain rfl:aS=y2:=fw (bH.symm.trans CA);have sO:=bH;rw[sN]at sO;have au4:l.length=os0.n:=by omega
 refine cY.draw a5 rfl rfl rfl ?_;refine bf.mk aS j sO ai (by omega) ?_;refine aO.mk _ Cz ?_;refine bf.mk aS i sO rfl (by omega) ?_;refine aO.mk _ Pv ?_;refine bf.mk aS i sO rfl (by omega) ?_;refine aX.LF kh 1 (λ_=>rfl) (e:=3) bS dI l[j] rfl [] M0 rfl bH ?_;intro kd np oT n7 mg;refine bf.mk aS j sO ai (by omega) ?_;refine aX.LF kh 1 (λ_=>rfl) (e:=3) mg (show j<(l.set i l[j]).length by rw[oP];exact eM) l[i] rfl [] M0 rfl (by rw[oT];exact bH) ?_;intro aoc Py Ha au5 Gp;refine bg.mk _ (cK (i:=i) (by omega)) ?_;refine bg.mk ((fq.length:Int)-1-((i+1:Nat):Int)) (by rw[wrap_i64 ⟨by omega,by omega⟩];omega) ?_;refine⟨(i+1,aoc,(l.set i l[j]).set j l[i]),⟨⟨by simp only;omega,Gp,by simp only[oP];exact c2,λk ae=>?_,(Ha.trans oT).trans sN,(Py.trans np).trans pc⟩,by simp only;omega⟩,.refl,hG,.nil⟩;have pP:=fb i (by omega);have It:=fb j (by omega);rw[bU (by omega),da dI]at pP;rw[bU (by omega),da eM]at It;simp only;rw[ia,ia,oP];by_cases aG:j=k
 ·subst aG;rw[bQ rfl,bQ eM,bQ (by omega),pP];congr 1;omega
 ·rw[bU aG];by_cases a7:i=k
  ·subst a7;rw[bQ rfl,bQ dI,bQ (by omega),It];congr 1;omega
  ·rw[bU a7,fb k ae];by_cases cr:k<i\/fq.length<=k+i
   ·rw[bQ cr,bQ (by omega)]
   ·rw[bU cr,bU (by omega)]
def aod(av:t.ok I)(af:right t=true)(aB:t.n<=1099511627776)(yn:node<t.n) :
  Spec Tryz.prog 135 [t.val,.int .i64 node] I M0 λv I' M'=>I'=I/\∃ os:aX,os.ok 1 ((zE t.ns node).reverse.map (.int .i64 ·))/\v=os.val/\os.n<=t.n/\valid t.ns.length (zE t.ns node).reverse/\M'=os.aq 3++M0:=by
 refine bZ [] a5 Tryz.func135 rfl rfl rfl ?_;intro B az;have ic:=av.n;have au6:m3 t.ns node<=t.ns.length:=PH af t.ns.length node (by omega) (by omega);refine bX.mk λb1 hk P4=>?_;refine de.inv (ι:=aX×List Int×aX×List Int×Nat) (λx=>{ bj:=[(2,.ref 2 0),(5,.val x.2.2.1.val),(6,.val x.1.val)],cl:=[(2,t.cells)],cI:=I,c1:=x.2.2.1.aq 3++(x.1.aq 3++M0) }) (ai1 t node) (λx=>gY (m3 t.ns) x.2.1) ?_ ?_
 ·refine⟨(⟨some b1,1,1,[.int .i64 node]⟩,[(node:Int)],hZ,[],t.ns.length+1),⟨⟨rfl,(λh=>by cases h),λdJ kp=>⟨rfl,cc _,by simp[maxLen],rfl⟩⟩,lv 1,λk ae=>?_,(λk ae=>by cases ae),?_,?_,rfl⟩,.refl,hG,.cons rfl (.nil)⟩
  ·simp only[ek]at ae;omega
  ·simp[gY]
  ·simp only[gY,cb,hr,jK,Dy];omega
 rintro⟨todo,SH,back,gG,f⟩⟨E3,tQ,Mt,E4,Mu,SI,oH⟩;simp only at E3 tQ Mt E4 Mu SI oH;have mO:=tQ.mX;have uP:=E3.mX;refine aZ.mk (λh=>?_) (λh=>?_)
 ·have aby:0<todo.n:=by have:(0:Int)<(todo.n:Int):=dh h;omega
  obtain⟨pd,m,rfl⟩:∃ pd m,SH=pd++[m]:=by
   rcases vY SH with aa | ⟨r,p,aa⟩;·subst aa;simp at uP;omega
   ·exact⟨r,p,by simpa using aa⟩
  have hm:=Mt m (by simp);obtain⟨m,rfl⟩:=eA hm.1;have jb:m<t.n:=by omega
  have rv:m<t.ns.length:=by omega
  have au7:todo.n=pd.length+1:=by simpa using uP
  have abz:=Hm af rv;rw[Hn]at Mu SI;have fo:gY (m3 t.ns) [(m:Int)]=m3 t.ns m:=by simp[gY]
  rw[fo,abz]at Mu SI;have au8:pd.length<=gY (m3 t.ns) pd:=PI af λk ae=>Mt k (by simp[ae]);have au9:t.ns[m].ax.length<=gY (m3 t.ns) t.ns[m].ax:=PI af λk ae=>by have:=mm af m rv k ae;omega
  have sQ:pd.length+t.ns[m].ax.length<=t.ns.length:=by omega
  obtain⟨aS,bH,bl⟩:=aX.BS (I:=I) (e:=3) (M:=back.aq 3++(todo.aq 3++M0)) E3 (λx ad=>by simp[ad]) (j:=pd.length) (by simp);rw[aau rfl]at bl;have oa:=E3;rw[cP]at oa;have oa:=aX.pop oa;have he:todo.n-1=pd.length:=by omega
  rw[he]at oa;have IE:pd.length<=todo.c:=by
   cases wO:todo.a with
   |none=>have:=(E3.nil wO).1;omega| some IF=>have:=(E3.cap IF wO).2.1;omega
  obtain⟨j7,j8,gL⟩:=av.a0.row an.cS jb rv;have aj:=av.ns _ (bx rv);have e8:=aj.aL;have rJ:=aj.a0.cap;have jd:=mm af m rv;refine bg.mk ((pd.length:Nat):Int) (by show IntKind.i64.wrap ((todo.n:Int)-1)=_;rw[wrap_i64 ⟨by omega,by omega⟩];omega) ?_;refine bf.mk aS pd.length bH rfl (show pd.length<todo.n by omega) ?_;refine aO.mk _ bl ?_;refine cY.draw a5 rfl rfl rfl ?_;refine bg.mk ((pd.length:Nat):Int) (by show IntKind.i64.wrap ((todo.n:Int)-1)=_;rw[wrap_i64 ⟨by omega,by omega⟩];omega) ?_;refine l7.mk 0 pd.length rfl rfl (dz _) IE ?_;refine bf.mk j7 m j8 rfl jb ?_;refine aO.mk _ ((gL _).part (k:=8) (m:=1) (by decide)) ?_;have aoe:∀ M,0<t.ns[m].aL->∃ aS,t.ns[m].dy=some aS/\cM I M aS (t.ns[m].aL*1) (t.ns[m].ax.map (.int .i64 ·)):=λM az=>aj.a0.Cy M az;refine bw.Eg a5 rfl (by simp) (e:=3) rfl rfl rfl ⟨todo.a,pd.length,todo.c,todo.aR⟩ oa rfl (sa:=t.ns[m].dy) (m:=t.ns[m].aL) (c':=t.ns[m].dq) (b8:=t.ns[m].ax.map (.int .i64 ·)) rfl (by rw[bF,e8];show _=t.ns[m].aL*1;omega) (aoe _) (IC _) (back.aq 3) M0 rfl (by simp only;omega) (by show(pd.length+t.ns[m].aL)*8<=_;omega) ?_;intro sR abA abB jJ;rw[<-cP]at jJ;refine bX.mk λb0 gU Kt=>?_;refine bw.o0 a5 rfl (by simp) (e:=3) rfl rfl rfl back tQ rfl (cs:=[.int .i64 m]) rfl rfl rfl [] (sR.aq 3++M0) rfl (by omega) (by show(back.n+1)*8<=_;omega) ?_;intro abC ava avb IG;have IG:abC.ok 1 ((gG++[(m:Int)]).map (.int .i64 ·)):=by rw[cP];exact IG
  refine⟨(sR,pd++t.ns[m].ax,abC,gG++[(m:Int)],f-1),⟨⟨jJ,IG,λk ae=>?_,λk ae=>?_,?_,?_,?_⟩,?_⟩,.refl,hG,.cons rfl (.nil)⟩
  ·rcases cE.1 ae with ae | ae
   ·exact Mt k (by simp[ae])
   ·have:=jd k ae;omega
  ·rcases cE.1 ae with ae | ae
   ·exact E4 k ae
   ·simp only[ek]at ae;omega
  ·simp only[Hn,cm,dx,fL];omega
  ·simp only[Hn];omega
  ·obtain⟨uH,rfl⟩:∃ uH,f=uH+1:=⟨f-1,by omega⟩;rw[oH,Xf,gl,gD rv];rfl
  ·simp only;rw[Hn,Hn,fo,abz];omega
 have aof:SH=[]:=by have:¬ (0:Int)<(todo.n:Int):=dO h;exact iK (by omega)
 subst aof;rw[Xe]at oH;simp only[gY,hr,Dy,db]at Mu;refine bc.whole _ (abx (os0:=back) tQ (by omega)) ?_;rintro v J N -⟨rfl,os,pc,bS,iD⟩;subst N;refine⟨_,os.aq 3++M0,.sub (.append (.refl _) (mb _ _)) .refl,rfl,os,by rw[oH];exact bS,pc.symm,?_,λk ae=>E4 k (by rw[oH]at ae;exact R0.1 ae),rfl⟩;have:=(ID pc).1;omega
section
variable{X:cV}{β:Nat->Nat}{F:Fr}{C:dB}{I:aI}{M:List aD}{o:Oper}{K:gd}
def bw.aog(aM:cU X.P X.E){x y:Operand}{t:Nat}(aH:o.op=.call { callee:=.builtin .copy,args:=#[x,y],argTypes:=#[t,t] })(aj:∀ d,o.dst=some d->d<X.n)
 {c7 aF:dD} (av:X.E t=some c7) (dR:c7.bL=.slice e) (he:X.E e=some aF)
 {g c:Nat} {aR:List Value} (ad:bE F x=.val (.slice (some ⟨g,0,none⟩) n c)) (ap:n*aF.size<=aR.length)
  {sa:Option Addr} {c':Nat} (aE:bE F y=.val (.slice sa n c')) {b8:List Value} (ay:b8.length=n*aF.size) (aB:0<n->∃ aS,sa=some aS/\cM I M aS (n*aF.size) b8) (aa:gm b8=true)
  (a9 post:List aD) (a':M=a9++⟨g,.cells aR.toArray e (0,0)⟩::post)
  (k:K (put o.dst (.val (.int .i64 n)) F) C I (a9++⟨g,.cells (ck aR 0 b8).toArray e (0,0)⟩::post)):bw X o F C I M K:=by
 refine⟨λa w Q ⟨β,aW⟩=>?_⟩;have hu:=Rr aM av dR;obtain⟨inf,z,hi,fh,iJ,il,ko⟩:=(aM _ _ he).inf;have au:w.heap[g]?=some (.cells aR.toArray e (0,0)):=aW.holds.m ⟨g,.cells aR.toArray e (0,0)⟩ (by rw[a'];simp);have eu:=run_storeCells_at X.P g 0 e b8 0 aR.toArray w au (by rw[ay];simpa using ap) (yJ aa);simp only[pk]at eu;have aA:(Builtin.firstCells aF.size n (.slice sa n c')).run X.P w=.ok b8.toArray w:=by
  by_cases az:0<n
  ·obtain⟨aS,rfl,dK,cs,T,al,e8,ah,ay⟩:=aB az;refine run_firstCells_some (P:=X.P) w aF.size n aS n c' b8 ay λj v ai=>?_;rw[eP _ dK,s7 (e8.heap aW.holds)];rw[<-ah,k6]at ai;split at ai
   ·rw[nj]at ai;simpa using ai
   ·cases ai
  ·have ab:n=0:=by omega
   subst ab;have ak:b8=[]:=iK (by rw[ay,yZ]);subst ak;cases sa with
   |none=>simp[Builtin.firstCells]| some aS=>exact run_firstCells_some (P:=X.P) w aF.size 0 aS 0 c' [] (by simp) λj v ai=>by simp at ai
 have ex:=dc aW.al ad;have oE:=dc aW.al aE;refine iV (by rw[aH];simp) (v:=.int .i64 n) (w':=w.setRow g (ck aR 0 b8).toArray) ?_ ⟨_,_,_,_,⟨β,cH.put (x:=.val (.int .i64 n)) ?_ aj rfl⟩,k⟩
 ·have e9:(Builtin.copy_ #[t,t] o.type #[.slice (some ⟨g,0,none⟩) n c,.slice sa n c']).run X.P w=.ok (.int .i64 n) (w.setRow g (ck aR 0 b8).toArray):=by rw[<-fh]at aA;simp[Builtin.copy_,run_underlying hu,Builtin.lenOf,sizeOf,typeInfo,hi,aA,eu,ck,goInt]
  unfold execOp;simp only[aH,resolve,invoke,builtin,cj,c0,bV,sc,cb,hr,ex,oE,e9]
 ·exact aW.xe a'
end
structure abD(d:an)(eh:List Int)(y:Nat×aX×List Int):Prop where
 k:y.1<=d.aL
 ok:y.2.1.ok 1 (y.2.2.flatMap kh)
 n:y.2.1.n=d.aL
 eq:y.2.2=(d.ax.take y.1).map (λk=>eh.getD k.toNat 0)++d.ax.drop y.1
def aoh(av:t.ok I)(af:right t=true)(aB:t.n<=1099511627776)(yn:node<t.n) :
  Spec Tryz.prog 81 [t.val,.int .i64 node] I [] λv I' M'=>(∀ b o,I b=some o->I' b=some o)/\M'=[]/\∃ bm:bR,v=bm.val/\bm.ok I'/\K' t node bm:=by
 refine yV [] a5 Tryz.func81 rfl rfl rfl ?_;intro B az;have ic:=av.n;have ju:=av.a0.cap;refine bc.mk [] [] _ (.refl _) (aod (M0:=[]) av af aB yn) ?_;rintro v aoi N -⟨A7,back,tQ,rfl,Df,E4,rfl⟩;subst aoi;obtain⟨rb,m9⟩:∃ rb,(zE t.ns node).reverse=rb:=⟨_,rfl⟩;rw[m9]at tQ E4;have mO:=tQ.mX;refine mG.mk t.n t.n rfl rfl (cc _) (by show 8*t.n<=_;omega) (by omega) ?_;refine bX.mk λb9 kX uR=>?_;refine mG.mk 0 back.n rfl rfl (dz _) (by show 96*back.n<=_;omega) (by omega) ?_;refine bX.mk λb7 Hz K5=>?_;have wG:(rowOf [Value.int .i64 0] (t.n*1))=(List.replicate t.n (0:Int)).map (Value.int .i64):=by rw[th,xm,e0]
 refine de.vK (ι:=Nat×List Int×aX×List an×aI) (λx=>{ bj:=[(2,.ref 2 0),(4,.ref 4 0),(5,.val back.val),(6,.val (.slice (some ⟨b9,0,none⟩) t.n t.n)),(7,.val x.2.2.1.val),(24,.val back.val),(25,.val (.int .i64 back.n)),(26,.val (.int .i64 x.1))],cl:=[(2,t.cells),(4,[.slice none 0 0,.int .i64 0])],cI:=x.2.2.2.2,c1:=dC b9 x.2.1::(x.2.2.1.aq 66++(back.aq 3++[])) }) (Xg I t rb) (λx=>rb.length-x.1) ?_ ?_
 ·intro _;refine⟨(0,List.replicate t.n 0,⟨some b7,0,back.n,rowOf [.int .u8 0,.int .u64 0,.int .u64 0,.int .u64 0,.int .u64 0,.string ⟨#[]⟩,.int .i64 0,.int .i64 0,.slice none 0 0] (back.n*9)⟩,[],I),⟨dz _,by simp[ic],⟨rfl,(λh=>by cases h),λdJ kp=>⟨by simp[vF,madeCells],dz _,by unfold maxLen;simp only;omega,by simp⟩⟩,rfl,(by rw[ic];rfl),(λd aj=>by cases aj),λ_ _ h=>h,(λc ap=>by have:=O' ap;omega),(λd aj=>by cases aj)⟩,.perm (List.Perm.swap _ _ _) (.n5 (by rw[wG];simp only[ef];rfl)),kq,.cons rfl (.cons rfl (.nil))⟩
 rintro⟨j,P,out,na,J⟩⟨ai,yo,yp,jj,CB,Am,bk,E5,l0⟩;simp only at ai yo yp jj CB Am bk E5 l0;have tx:out.n=j:=by have:=yp.len;rw[iv _ 9 an.cS,jj]at this;omega
 subst tx;refine aZ.mk (λh=>?_) (λh=>?_)
 ·have ka:out.n<rb.length:=by have:(out.n:Int)<(back.n:Int):=dh h;omega
  have hm:=E4 _ (bx ka);obtain⟨m,yq⟩:=eA hm.1;rw[yq]at hm;have jb:m<t.n:=by omega
  have rv:m<t.ns.length:=by omega
  obtain⟨aS,bH,IH⟩:=aX.BS (I:=J) (e:=3) (M:=dC b9 P::(out.aq 66++(back.aq 3++[]))) tQ (λx ad=>by simp[ad]) ka;rw[yq]at IH;obtain⟨j7,j8,gL⟩:=(av.a0.mono bk).row an.cS jb rv;have aj:=(av.ns _ (bx rv)).mono bk;have e8:=aj.aL;have rJ:=aj.a0.cap;have jd:=mm af m rv;have mC:nodeAt t.ns m=t.ns[m]:=gD rv;generalize fi:t.ns[m]=d at aj e8 rJ jd gL mC;have gW:=oF P m (by omega) (out.n:Int);generalize tI:P.set m (out.n:Int)=eh at gW;have Mv:eh.length=t.ns.length:=by rw[<-tI];simpa using yo
  have CC:∀ c∈eh,0<=c/\c<=rb.length:=λc ap=>by
   rw[<-tI]at ap;rcases Ae ap with ap | rfl;·exact E5 c ap
   ·omega
  refine bf.mk aS out.n bH rfl (show _<back.n by omega) ?_;refine aO.mk _ IH ?_;refine bf.mk ⟨b9,0,none⟩ m rfl rfl jb ?_;refine b2.ix [] (out.aq 66++(back.aq 3++[])) (P.map (Value.int .i64)) 3 rfl (by rw[nE,bF];show 0+m*1+1<=_;omega) rfl (eh.map (Value.int .i64)) (by rw[db,e0];exact gW) ?_;refine bf.mk j7 m j8 rfl jb ?_;refine aO.mk _ (gL _) ?_;have sj:(out.n+1)*96<=140737488355328:=by omega
  refine aZ.mk (λaa=>?_) (λaa=>?_)
  ·have lP:0<d.aL:=by have:(0:Int)<(d.aL:Int):=dh aa;omega
   refine mG.mk d.aL d.aL rfl rfl (cc _) (by show 8*d.aL<=_;omega) (by omega) ?_;refine bX.mk λtR SJ avc=>?_;have bb:(rowOf [Value.int .i64 0] (d.aL*1)).length=d.aL:=by simp[vF,madeCells]
   have dK:ck (rowOf [Value.int .i64 0] (d.aL*1)) 0 (d.ax.map (.int .i64 ·))=d.ax.map (.int .i64 ·):=by unfold ck;rw[re,iq,db,u0 (by rw[bb,bF];omega),ef]
   refine bw.aog a5 rfl (by simp) (e:=3) rfl rfl rfl (g:=tR) (n:=d.aL) (c:=d.aL) (aR:=rowOf [Value.int .i64 0] (d.aL*1)) rfl (by rw[bb];show d.aL*1<=_;omega) (sa:=d.dy) (c':=d.dq) rfl (b8:=d.ax.map (.int .i64 ·)) (by rw[bF];show _=d.aL*1;omega) (λaz=>aj.a0.Cy _ az) (IC _) [] (dC b9 eh::(out.aq 66++(back.aq 3++[]))) rfl ?_;rw[dK];refine de.inv (ι:=Nat×aX×List Int) (λy=>{ bj:=[(2,.ref 2 0),(4,.ref 4 0),(5,.val back.val),(6,.val (.slice (some ⟨b9,0,none⟩) t.n t.n)),(7,.val out.val),(8,.val (.int .i64 out.n)),(9,.val (.int .i64 m)),(10,.ref 10 0),(11,.val y.2.1.val),(24,.val back.val),(25,.val (.int .i64 back.n)),(26,.val (.int .i64 out.n)),(52,.val y.2.1.val),(53,.val (.int .i64 d.aL)),(54,.val (.int .i64 y.1))],cl:=[(2,t.cells),(4,[.slice none 0 0,.int .i64 0]),(10,d.cells)],cI:=J,c1:=y.2.1.aq 3++(dC b9 eh::(out.aq 66++(back.aq 3++[]))) }) (λy=>abD d eh y) (λy=>d.aL-y.1) ?_ ?_;·exact⟨(0,⟨some tR,d.aL,d.aL,d.ax.map (.int .i64 ·)⟩,d.ax),⟨dz _,⟨by rw[qS,bF];simp only;omega,(λh=>by cases h),λdJ kp=>⟨by simp only[bF];omega,cc _,by unfold maxLen;simp only;omega,by rw[qS];exact ft (by rw[bF];simp only;omega)⟩⟩,rfl,by simp⟩,.refl,afy,.cons rfl (.cons rfl (.cons rfl (.nil)))⟩
   rintro⟨k,eg,gy⟩⟨ae,kA,II,cy⟩;simp only at ae kA II cy;have SK:∀ x∈eg.aq 3,x∈eg.aq 3++(dC b9 eh::(out.aq 66++(back.aq 3++[]))):=λx ad=>jr _ ad;have SL:dC b9 eh∈eg.aq 3++(dC b9 eh::(out.aq 66++(back.aq 3++[]))):=by simp
   have DT:gy.length=d.ax.length:=by rw[cy,cm,bF,hU,tb];omega
   refine aZ.mk (λab=>?_) (λab=>?_)
   ·have fc:k<d.aL:=by have:(k:Int)<(d.aL:Int):=dh ab;omega
    have kO:k<d.ax.length:=by omega
    have CD:k<gy.length:=by omega
    have ah:=jd _ (bx kO);have vl:d.ax[k].toNat<eh.length:=by omega
    have CE:eh.getD d.ax[k].toNat 0=eh[d.ax[k].toNat]:=by simp[bz,vl]
    have SM:gy[k]=d.ax[k]:=by
     have ak:gy[k]?=d.ax[k]?:=by rw[cy,mT (by rw[bF,hU];omega),bF,hU,ud (by omega),pI,nj,pk]
     rw[da CD,da kO]at ak;exact fw ak
    obtain⟨gg,fs,e'⟩:=aX.ok.row (I:=J) (M:=eg.aq 3++(dC b9 eh::(out.aq 66++(back.aq 3++[])))) (e:=3) (f:=kh) (size:=1) (λ_=>rfl) (by decide) kA SK CD;rw[SM]at e';refine bf.mk gg k fs rfl (show k<eg.n by omega) ?_;refine aO.mk _ e' ?_;refine bf.mk ⟨b9,0,none⟩ d.ax[k].toNat rfl (by omega) (by omega) ?_;refine aO.mk _ (Gy SL vl) ?_;refine bf.mk gg k fs rfl (show k<eg.n by omega) ?_;refine aX.LF kh 1 (λ_=>rfl) (e:=3) kA CD eh[d.ax[k].toNat] rfl [] (dC b9 eh::(out.aq 66++(back.aq 3++[]))) rfl fs ?_;intro qE np oT n7 mg;refine bg.mk _ (cK (i:=k) (by omega)) ?_;refine⟨(k+1,qE,gy.set k eh[d.ax[k].toNat]),⟨⟨fc,mg,n7.trans II,?_⟩,by simp only;omega⟩,.refl,.cons .refl (.cons .refl (.cons .refl (.cons .refl (.cons .refl (.cons .refl (.cons .refl (.cons .refl (.cons ?_ (.cons .refl (.cons .refl (.cons .refl (.cons ?_ (xl))))))))))))),.cons rfl (.cons rfl (.cons rfl (.nil)))⟩;·simp only;rw[cy,fZ kO,cP,cb,hr,CE,GY _ _ (by rw[bF,hU];omega),bF,hU,ud (by omega),pI,eR kO,G0,dT];rfl
    ·simp only;rw[np];exact .refl
    ·simp only;rw[np];exact .refl
   have cA:k=d.aL:=by have:¬ (k:Int)<(d.aL:Int):=dO ab;omega
   subst cA;rw[ft (by omega),u0 (by omega),ef]at cy;rw[qS]at kA;refine bX.mk λabE abF abG=>?_;have bI:∃ cd:an,cd=⟨d.k,d.cz,d.s1,d.s2,d.cZ,d.t,d.lo,d.hi,eg.a.map λg=>⟨g,0,none⟩,eg.n,eg.c,gy⟩:=⟨_,rfl⟩;obtain⟨cd,bI⟩:=bI;have IJ:cd.cells=[.int .u8 d.k,.int .u64 d.cz,.int .u64 d.s1,.int .u64 d.s2,.int .u64 d.cZ,.string d.t,.int .i64 d.lo,.int .i64 d.hi,.slice (eg.a.map λg=>⟨g,0,none⟩) eg.n eg.c]:=by rw[bI];rfl
   refine bw.o0 a5 rfl (by simp) (e:=66) rfl rfl rfl out yp rfl (cs:=[.int .u8 d.k,.int .u64 d.cz,.int .u64 d.s1,.int .u64 d.s2,.int .u64 d.cZ,.string d.t,.int .i64 d.lo,.int .i64 d.hi,.slice (eg.a.map λg=>⟨g,0,none⟩) eg.n eg.c]) rfl rfl rfl (eg.aq 3++[dC b9 eh]) (back.aq 3++[]) (by simp;rfl) (by omega) (by show(out.n+1)*96<=_;omega) ?_;intro sS abH abI An;refine bg.mk _ (cK (i:=out.n) (by omega)) ?_;have Ao:∀ c∈gy,0<=c/\c<=rb.length:=λc ap=>by
    rw[cy]at ap;obtain⟨q,aP,rfl⟩:=cC.1 ap;have tD:=jd q aP;have IK:q.toNat<eh.length:=by omega
    exact CC (eh.getD q.toNat 0) (by simp only[bz,da IK,jV];exact bx _)
   intro fC;obtain⟨lH,hw,bp,er⟩:=aX.G5 (I:=J) (b:=8) (e:=3) kA (by omega) (λg au=>fC.d ⟨g,.cells eg.aR.toArray 3 (0,0)⟩ (by simp[aX.aq,au])) (dC b9 eh::(sS.aq 66++(back.aq 3++[])));refine⟨(out.n+1,eh,sS,na++[cd],lH),⟨⟨by simp only;omega,Mv,?_,by simp[jj],?_,?_,λb o h=>bp _ _ (bk _ _ h),CC,?_⟩,by simp only;omega⟩,?_,kq,.cons rfl (.cons rfl (.nil))⟩
   ·simp only;rw[hd];have:([cd].flatMap an.cells)=cd.cells:=by simp
    rw[this,IJ];exact An
   ·simp only;rw[fZ ka,rE,CB,jn,KZ,yq];show(P.set m ((na.map an.a4).length:Int),na.map an.a4++[(nodeAt t.ns m).eC ((nodeAt t.ns m).ax.map λk=>(P.set m ((na.map an.a4).length:Int)).getD k.toNat 0)])=_;rw[bF,jj,tI,mC,<-cy,cP,bI];rfl
   ·simp only;intro x ad;rcases cE.1 ad with ad | ad
    ·exact(Am x ad).mono bp
    ·simp only[ek]at ad;rw[ad,bI];refine⟨aj.k,aj.cz,aj.s1,aj.s2,aj.cZ,aj.t,aj.lo,aj.hi,er,λc ap=>?_⟩;have:=Ao c ap;exact⟨by omega,by omega⟩
   ·simp only;intro x ad;rcases cE.1 ad with ad | ad
    ·exact l0 x ad
    ·simp only[ek]at ad;rw[ad,bI];exact Ao
   ·simp only;refine .perm (M1:=eg.aq 3++(dC b9 eh::(sS.aq 66++(back.aq 3++[])))) ?_ hw;simp
  ·have lP:d.aL=0:=by have:¬ (0:Int)<(d.aL:Int):=dO aa;omega
   have aoj:d.ax=[]:=iK (by omega);refine de.inv (ι:=Nat×aX×List Int) (λy=>{ bj:=[(2,.ref 2 0),(4,.ref 4 0),(5,.val back.val),(6,.val (.slice (some ⟨b9,0,none⟩) t.n t.n)),(7,.val out.val),(8,.val (.int .i64 out.n)),(9,.val (.int .i64 m)),(10,.ref 10 0),(11,.val y.2.1.val),(24,.val back.val),(25,.val (.int .i64 back.n)),(26,.val (.int .i64 out.n)),(52,.val y.2.1.val),(53,.val (.int .i64 d.aL)),(54,.val (.int .i64 y.1))],cl:=[(2,t.cells),(4,[.slice none 0 0,.int .i64 0]),(10,d.cells)],cI:=J,c1:=y.2.1.aq 3++(dC b9 eh::(out.aq 66++(back.aq 3++[]))) }) (λy=>abD d eh y) (λy=>d.aL-y.1) ?_ ?_;·refine⟨(0,hZ,d.ax),⟨dz _,by rw[aoj];exact lv 1,lP.symm,by simp⟩,.refl,.cons .refl (.cons .refl (.cons .refl (.cons .refl (.cons .refl (.cons .refl (.cons .refl (.cons .refl (.cons .refl (.cons .refl (.cons .refl (.cons .refl (.cons .refl (.cons ?_ (.cons .refl .nil)))))))))))))),.cons rfl (.cons rfl (.cons rfl (.nil)))⟩;simp only;rw[lP];exact .refl
   rintro⟨k,eg,gy⟩⟨ae,kA,II,cy⟩;simp only at ae kA II cy;have SK:∀ x∈eg.aq 3,x∈eg.aq 3++(dC b9 eh::(out.aq 66++(back.aq 3++[]))):=λx ad=>jr _ ad;have SL:dC b9 eh∈eg.aq 3++(dC b9 eh::(out.aq 66++(back.aq 3++[]))):=by simp
   have DT:gy.length=d.ax.length:=by rw[cy,cm,bF,hU,tb];omega
   refine aZ.mk (λab=>?_) (λab=>?_)
   ·have fc:k<d.aL:=by have:(k:Int)<(d.aL:Int):=dh ab;omega
    have kO:k<d.ax.length:=by omega
    have CD:k<gy.length:=by omega
    have ah:=jd _ (bx kO);have vl:d.ax[k].toNat<eh.length:=by omega
    have CE:eh.getD d.ax[k].toNat 0=eh[d.ax[k].toNat]:=by simp[bz,vl]
    have SM:gy[k]=d.ax[k]:=by
     have ak:gy[k]?=d.ax[k]?:=by rw[cy,mT (by rw[bF,hU];omega),bF,hU,ud (by omega),pI,nj,pk]
     rw[da CD,da kO]at ak;exact fw ak
    obtain⟨gg,fs,e'⟩:=aX.ok.row (I:=J) (M:=eg.aq 3++(dC b9 eh::(out.aq 66++(back.aq 3++[])))) (e:=3) (f:=kh) (size:=1) (λ_=>rfl) (by decide) kA SK CD;rw[SM]at e';refine bf.mk gg k fs rfl (show k<eg.n by omega) ?_;refine aO.mk _ e' ?_;refine bf.mk ⟨b9,0,none⟩ d.ax[k].toNat rfl (by omega) (by omega) ?_;refine aO.mk _ (Gy SL vl) ?_;refine bf.mk gg k fs rfl (show k<eg.n by omega) ?_;refine aX.LF kh 1 (λ_=>rfl) (e:=3) kA CD eh[d.ax[k].toNat] rfl [] (dC b9 eh::(out.aq 66++(back.aq 3++[]))) rfl fs ?_;intro qE np oT n7 mg;refine bg.mk _ (cK (i:=k) (by omega)) ?_;refine⟨(k+1,qE,gy.set k eh[d.ax[k].toNat]),⟨⟨fc,mg,n7.trans II,?_⟩,by simp only;omega⟩,.refl,.cons .refl (.cons .refl (.cons .refl (.cons .refl (.cons .refl (.cons .refl (.cons .refl (.cons .refl (.cons ?_ (.cons .refl (.cons .refl (.cons .refl (.cons ?_ (xl))))))))))))),.cons rfl (.cons rfl (.cons rfl (.nil)))⟩;·simp only;rw[cy,fZ kO,cP,cb,hr,CE,GY _ _ (by rw[bF,hU];omega),bF,hU,ud (by omega),pI,eR kO,G0,dT];rfl
    ·simp only;rw[np];exact .refl
    ·simp only;rw[np];exact .refl
   have cA:k=d.aL:=by have:¬ (k:Int)<(d.aL:Int):=dO ab;omega
   subst cA;rw[ft (by omega),u0 (by omega),ef]at cy;rw[qS]at kA;refine bX.mk λabE abF abG=>?_;have bI:∃ cd:an,cd=⟨d.k,d.cz,d.s1,d.s2,d.cZ,d.t,d.lo,d.hi,eg.a.map λg=>⟨g,0,none⟩,eg.n,eg.c,gy⟩:=⟨_,rfl⟩;obtain⟨cd,bI⟩:=bI;have IJ:cd.cells=[.int .u8 d.k,.int .u64 d.cz,.int .u64 d.s1,.int .u64 d.s2,.int .u64 d.cZ,.string d.t,.int .i64 d.lo,.int .i64 d.hi,.slice (eg.a.map λg=>⟨g,0,none⟩) eg.n eg.c]:=by rw[bI];rfl
   refine bw.o0 a5 rfl (by simp) (e:=66) rfl rfl rfl out yp rfl (cs:=[.int .u8 d.k,.int .u64 d.cz,.int .u64 d.s1,.int .u64 d.s2,.int .u64 d.cZ,.string d.t,.int .i64 d.lo,.int .i64 d.hi,.slice (eg.a.map λg=>⟨g,0,none⟩) eg.n eg.c]) rfl rfl rfl (eg.aq 3++[dC b9 eh]) (back.aq 3++[]) (by simp;rfl) (by omega) (by show(out.n+1)*96<=_;omega) ?_;intro sS abH abI An;refine bg.mk _ (cK (i:=out.n) (by omega)) ?_;have Ao:∀ c∈gy,0<=c/\c<=rb.length:=λc ap=>by
    rw[cy]at ap;obtain⟨q,aP,rfl⟩:=cC.1 ap;have tD:=jd q aP;have IK:q.toNat<eh.length:=by omega
    exact CC (eh.getD q.toNat 0) (by simp only[bz,da IK,jV];exact bx _)
   intro fC;obtain⟨lH,hw,bp,er⟩:=aX.G5 (I:=J) (b:=8) (e:=3) kA (by omega) (λg au=>fC.d ⟨g,.cells eg.aR.toArray 3 (0,0)⟩ (by simp[aX.aq,au])) (dC b9 eh::(sS.aq 66++(back.aq 3++[])));refine⟨(out.n+1,eh,sS,na++[cd],lH),⟨⟨by simp only;omega,Mv,?_,by simp[jj],?_,?_,λb o h=>bp _ _ (bk _ _ h),CC,?_⟩,by simp only;omega⟩,?_,kq,.cons rfl (.cons rfl (.nil))⟩
   ·simp only;rw[hd];have:([cd].flatMap an.cells)=cd.cells:=by simp
    rw[this,IJ];exact An
   ·simp only;rw[fZ ka,rE,CB,jn,KZ,yq];show(P.set m ((na.map an.a4).length:Int),na.map an.a4++[(nodeAt t.ns m).eC ((nodeAt t.ns m).ax.map λk=>(P.set m ((na.map an.a4).length:Int)).getD k.toNat 0)])=_;rw[bF,jj,tI,mC,<-cy,cP,bI];rfl
   ·simp only;intro x ad;rcases cE.1 ad with ad | ad
    ·exact(Am x ad).mono bp
    ·simp only[ek]at ad;rw[ad,bI];refine⟨aj.k,aj.cz,aj.s1,aj.s2,aj.cZ,aj.t,aj.lo,aj.hi,er,λc ap=>?_⟩;have:=Ao c ap;exact⟨by omega,by omega⟩
   ·simp only;intro x ad;rcases cE.1 ad with ad | ad
    ·exact l0 x ad
    ·simp only[ek]at ad;rw[ad,bI];exact Ao
   ·simp only;refine .perm (M1:=eg.aq 3++(dC b9 eh::(sS.aq 66++(back.aq 3++[])))) ?_ hw;simp
 have cA:out.n=rb.length:=by have:¬ (out.n:Int)<(back.n:Int):=dO h;omega
 refine bg.mk ((na.length:Int)-1) (by show IntKind.i64.wrap ((out.n:Int)-1)=_;rw[wrap_i64 ⟨by omega,by omega⟩,jj]) ?_;intro fC;obtain⟨lH,hw,bp,er⟩:=aX.G5 (I:=J) (b:=96) (e:=66) yp (by omega) (λg au=>fC.d ⟨g,.cells out.aR.toArray 66 (0,0)⟩ (by simp[aX.aq,au])) [];refine⟨lH,[],.sub (M1:=out.aq 66++[]) (by rw[ef];exact .cons _ (tw _ _)) hw,λb o h=>bp _ _ (bk _ _ h),rfl,⟨na,out.a.map λg=>⟨g,0,none⟩,out.n,out.c,(na.length:Int)-1⟩,rfl,⟨er,λd aj=>(Am d aj).mono bp,⟨by simp only;omega,by simp only;omega⟩⟩,⟨?_,rfl⟩⟩;rw[ft (by omega)]at CB;rw[rI,m9,<-ic]at *;rw[CB]
def SN(av:t.ok I)(af:right t=true)(aB:t.n<=1099511627776)(yn:node<t.n) :
  Spec Tryz.prog 81 [t.val,.int .i64 node] I M0 λv I' M'=>(∀ b o,I b=some o->I' b=some o)/\M'=M0/\∃ bm:bR,v=bm.val/\bm.ok I'/\K' t node bm:=by
 refine Spec.qN (Spec.frame (aoh av af aB yn)) ?_;rintro v J M⟨M',rfl,-,-,aa,rfl,bm,rfl,ab,ak⟩;exact⟨aa,rfl,bm,rfl,ab,ak⟩
def Ap(aok:Int)(d:an):an:=d.eC (d.ax.map (·+aok))
def aol{A K B:List Int}(aj:hO (A++(K++B)))(ad:x∈K):u1 (A++(K++B)) x=u1 K x+(A.length:Int):=by have dH:x ∉ A:=λh=>(rM.1 aj).2.2 x h x (jr _ ad) rfl;unfold u1;rw[RZ,bU dH,RZ,bQ ad];omega
def aom{Mw:List Int}{k:Int}(aj:hO (Mw++[k])):u1 (Mw++[k]) k=(Mw.length:Int):=by have dH:k ∉ Mw:=λh=>(rM.1 aj).2.2 k h k (.head _) rfl;unfold u1;rw[RZ,bU dH,List.idxOf_cons_self];omega
section
end
def aon{nm:ByteArray}{ds:List aQ}{q:Nat}(h:ct nm ds 0=(q:Int)):ev nm (bD ds)=some (q:Int):=by rw[aaM,h,eB (by omega),b']
section
end
section
end
open Classical in
def abJ{ds:List aQ}{i:Nat}:i∈rY ds F ↔ i<ds.length/\kg (jC ds F) i i:=by unfold rY;rw[iX,g',RY]
def E6:dm aw g=0 ↔ g.n≠0/\nF g.ds=true/\oN aw g=false/\(∀ i,i<g.ds.length->m7 g.ds i=true)/\∀ d∈g.ds,∀ n∈d.t.ns,n.k=3->0<=ct n.t g.ds 0:=by
 rw[<-Se];have gq:(g.ds.all λd=>d.t.ns.all (yg g.ds))=true ↔ ∀ d∈g.ds,∀ n∈d.t.ns,n.k=3->0<=ct n.t g.ds 0:=by
  simp only[fx,yg,kQ,ta,sb,hR];constructor
  ·intro h d aj n aB ak;rcases h d aj n aB with h | h
   ·exact absurd ak h
   ·exact h
  ·intro h d aj n aB;by_cases ak:n.k=3
   ·exact .inr (h d aj n aB ak)
   ·exact .inl ak
 have aA:(List.range g.ds.length).all (m7 g.ds)=true ↔ ∀ i,i<g.ds.length->m7 g.ds i=true:=by simp[fx]
 rw[<-gq,<-aA];unfold Ir;by_cases aa:g.n=0
 ·rw[fu (by omega),ca];exact⟨(λh=>by cases h),(λh=>absurd aa h.1)⟩
 ·rw[eB (by omega),b'];cases nF g.ds with
  |false=>exact⟨(λh=>by cases h),(λh=>by cases h.2.1)⟩| true=>
  cases oN aw g with
  |true=>exact⟨(λh=>by cases h),(λh=>by cases h.2.2.1)⟩| false=>
  cases(List.range g.ds.length).all (m7 g.ds)with
  |false=>exact⟨(λh=>by cases h),(λh=>by cases h.2.2.2.1)⟩| true=>
  cases(g.ds.all λd=>d.t.ns.all (yg g.ds))with
  |false=>exact⟨(λh=>by cases h),(λh=>by cases h.2.2.2.2)⟩| true=>exact⟨λ_=>⟨aa,rfl,rfl,rfl,rfl⟩,λ_=>rfl⟩
def nN(ds:List aQ):cx:=⟨ds,none,ds.length,0⟩
section
variable{α:Type}{z:α}{F:an->List α->α}
def SO{f:an->(Int->α)->α}:∀ (a b:List an) (a6:List α),gC z f (a++b) a6=gC z f b (gC z f a a6)
 |[],b,a6=>rfl| d::a,b,a6=>by rw[mU,gC,gC,SO a b]
variable(bG:∀ d l,F (d.eC l)=F d)
include bG
theorem abK{n:Nat}{a6:List α}(aB:a6.length=n):∀ (l:List an) (p:List α),(∀ d∈l,∀ k∈d.ax,0<=k)->gC z (λd g=>F d (d.ax.map g)) (l.map λx=>x.eC (x.ax.map λk=>(n:Int)+k)) (a6++p)=a6++gC z (λd g=>F d (d.ax.map g)) l p
 |[],p,_=>rfl
 |d::l,p,h=>by
  have e:F (d.eC (d.ax.map λk=>(n:Int)+k)) ((d.ax.map λk=>(n:Int)+k).map λk=>(a6++p).getD k.toNat z)=F d (d.ax.map λk=>p.getD k.toNat z):=by rw[bG,gO];congr 1;refine gM λk ae=>?_;have az:=h d (.head _) k ae;show(a6++p).getD ((n:Int)+k).toNat z=_;rw[bz,mT (by omega),bz];congr 2;omega
  rw[cb,gC,gC];show gC z _ _ (a6++p++[F (d.eC (d.ax.map λk=>(n:Int)+k)) ((d.ax.map λk=>(n:Int)+k).map λk=>(a6++p).getD k.toNat z)])=_;rw[e,dT];exact abK aB l _ λx ad=>h x (.tail _ ad)
def Aq(z:α)(F:an->List α->α)(l:List an):α:=mo z (λd g=>F d (d.ax.map g)) l ((l.length:Int)-1)
theorem abL:∀ (fS:List (List an)) (aY:List an×List Int) (vs:List α),(∀ l∈fS,0<l.length/\∀ d∈l,∀ k∈d.ax,0<=k) -> (aY.2.map λk=>(gC z (λd g=>F d (d.ax.map g)) aY.1 []).getD k.toNat z)=vs->(∀ k∈aY.2,0<=k/\k<aY.1.length) -> ((fS.foldl jB aY).2.map λk=>(gC z (λd g=>F d (d.ax.map g)) (fS.foldl jB aY).1 []).getD k.toNat z)=vs++fS.map (Aq z F)
 |[],aY,vs,_,h,_=>by simpa using h
 |l::fS,aY,vs,ay,h,ae=>by
  obtain⟨A0,kt⟩:=ay l (.head _);have c2:(gC z (λd g=>F d (d.ax.map g)) aY.1 []).length=aY.1.length:=by rw[OJ];simp
  have bs:gC z (λd g=>F d (d.ax.map g)) (jB aY l).1 []=gC z (λd g=>F d (d.ax.map g)) aY.1 []++gC z (λd g=>F d (d.ax.map g)) l []:=by show gC z _ (aY.1++l.map λx=>x.eC (x.ax.map λk=>(aY.1.length:Int)+k)) []=_;rw[SO];have:=abK bG (z:=z) c2 l [] kt;rwa [ef]at this
  rw[jn];have:=abL fS (jB aY l) (vs++[Aq z F l]) (λx ad=>ay x (.tail _ ad)) ?_ ?_;·rw[this,cb,dT];rfl
  ·rw[bs];show(aY.2++[((aY.1.length+l.length:Nat):Int)-1]).map _=_;rw[cP,<-h,cb,hr];congr 1
   ·refine gM λk iP=>?_;have:=ae k iP;rw[bz,q' (by rw[c2];omega),bz]
   ·congr 1;rw[bz,mT (by rw[c2];omega),c2];unfold Aq mo;rw[bz];congr 2;omega
  ·intro k iP;rcases cE.1 (show k∈aY.2++[((aY.1.length+l.length:Nat):Int)-1]from iP)with iP | iP
   ·have:=ae k iP;show 0<=k/\k<((aY.1++l.map λx=>x.eC (x.ax.map λk=>(aY.1.length:Int)+k)).length:Nat);rw[cm];omega
   ·rw[ek]at iP;show 0<=k/\k<((aY.1++l.map λx=>x.eC (x.ax.map λk=>(aY.1.length:Int)+k)).length:Nat);rw[cm,bF];omega
theorem aoo{d:an}(ay:∀ l∈fS,0<l.length/\∀ d∈l,∀ k∈d.ax,0<=k):Aq z F (wb d fS)=F d (fS.map (Aq z F)):=by
 have h:=abL bG (z:=z) fS ([],[]) [] ay rfl (λk ae=>by cases ae);rw[iq]at h;have c2:(gC z (λd g=>F d (d.ax.map g)) (fS.foldl jB ([],[])).1 []).length=(fS.foldl jB ([],[])).1.length:=by rw[OJ];simp
 unfold Aq mo wb;rw[SO,gC,gC];show(_++[F (d.eC (fS.foldl jB ([],[])).2) ((fS.foldl jB ([],[])).2.map λk=>(gC z (λd g=>F d (d.ax.map g)) (fS.foldl jB ([],[])).1 []).getD k.toNat z)]).getD _ z=_;rw[h,bG,bz,mT (by rw[c2];simp)];have dF:((((fS.foldl jB ([],[])).1++[d.eC (fS.foldl jB ([],[])).2]).length:Int)-1).toNat-(gC z (λd g=>F d (d.ax.map g)) (fS.foldl jB ([],[])).1 []).length=0:=by rw[c2];simp
 rw[dF];rfl
end
def abM{α:Type}(z:α)(F:an->List α->α)(t:bR):α:=mo z (λd g=>F d (d.ax.map g)) t.ns t.bA
def SP(d:an)(l:List Int)(n:Int):fits (d.eC l) n=fits d n:=rfl
structure Ar(aY:List an×List Int):Prop where
 fits:∀ d∈aY.1,fits d d.ax.length=true
 ax:∀ j (h:j<aY.1.length),∀ k∈aY.1[j].ax,0<=k/\k<j
 diff:hO (eO aY.1)
 all:∀ j:Nat,j<aY.1.length->((j:Int)∈eO aY.1 ↔ (j:Int) ∉ aY.2)
 cO:hO aY.2
 IL:∀ k∈aY.2,0<=k/\k<aY.1.length
def Mx{l:List an}(h:∀ j (h:j<l.length),∀ k∈l[j].ax,0<=k/\k<j):∀ k∈eO l,0<=k/\k<l.length:=λk ae=>by obtain⟨d,aj,lr⟩:=hy.1 ae;obtain⟨j,ai,rfl⟩:=j9 aj;have:=h j ai k lr;omega
def aop(n:Int)(l:List an):eO (l.map λx=>x.eC (x.ax.map λk=>n+k))=(eO l).map λk=>n+k:=by unfold eO;rw[Af,Ag];rfl
def Ar.step{aY:List an×List Int}(h:Ar aY){l:List an}(ay:hP (my l)):Ar (jB aY l):=by
 have tl:=ay.bA;have kt:=Mx (l:=l) ay.ax;have E7:=Mx h.ax;have gq:eO (jB aY l).1=eO aY.1++(eO l).map λk=>(aY.1.length:Int)+k:=by show eO (aY.1++_)=_;rw[<-aop];unfold eO;rw[hd]
 have c2:(jB aY l).1.length=aY.1.length+l.length:=by show(aY.1++_).length=_;rw[cm,bF]
 have lr:(jB aY l).2=aY.2++[((aY.1.length+l.length:Nat):Int)-1]:=rfl;have rm:(my l).bA=(l.length:Int)-1:=rfl;have si:(my l).ns=l:=rfl;rw[rm,si]at tl;refine⟨λd aj=>?_,λj ai k ae=>?_,?_,λj ai=>?_,?_,λk ae=>?_⟩
 ·rcases cE.1 (show d∈aY.1++l.map (λx=>x.eC (x.ax.map λk=>(aY.1.length:Int)+k))from aj)with aj | aj
  ·exact h.fits d aj
  ·obtain⟨x,ad,rfl⟩:=cC.1 aj;obtain⟨j,ai,rfl⟩:=j9 ad;have:=ay.fits j ai;rw[SP];show Go.V.fits l[j] (((l[j].ax.map λk=>(aY.1.length:Int)+k).length:Nat):Int)=true;rw[bF];exact this
 ·have ai:j<(aY.1++l.map (λx=>x.eC (x.ax.map λk=>(aY.1.length:Int)+k))).length:=ai;have iP:k∈((aY.1++l.map (λx=>x.eC (x.ax.map λk=>(aY.1.length:Int)+k)))[j]'ai).ax:=ae;have nb:j<aY.1.length+l.length:=by rw[<-c2];exact ai
  by_cases eM:j<aY.1.length;·rw[zt eM]at iP;exact h.ax j eM k iP
  ·rw[D5 (by omega),g7]at iP;obtain⟨q,aP,rfl⟩:=cC.1 (show k∈(l[j-aY.1.length]'(by omega)).ax.map (λk=>(aY.1.length:Int)+k)from iP);have:=ay.ax (j-aY.1.length) (by show _<l.length;omega) q aP;omega
 ·rw[gq];refine rM.2 ⟨h.diff,ER.2 ((show hO (eO l)from ay.diff).imp λbn e=>bn (by omega)),λx ad y aE e=>?_⟩;obtain⟨q,aP,rfl⟩:=cC.1 aE;have aa:=E7 x ad;have ab:=kt q aP;omega
 ·rw[gq,lr,cE,cE,ek,cC];rw[c2]at ai;by_cases eM:j<aY.1.length
  ·have a2:=h.all j eM;constructor
   ·rintro(aa | ⟨q,aP,e⟩)
    ·rintro(ab | ab)
     ·exact a2.1 aa ab
     ·omega
    ·have:=kt q aP;omega
   ·intro aa;exact .inl (a2.2 λab=>aa (.inl ab))
  ·have a2:=ay.all (j-aY.1.length) (by show _<l.length;omega);rw[rm,si]at a2;constructor
   ·rintro(aa | ⟨q,aP,e⟩)
    ·have:=E7 _ aa;omega
    ·rintro(ab | ab)
     ·have:=h.IL _ ab;omega
     ·have a7:q=((j-aY.1.length:Nat):Int):=by omega
      rw[a7]at aP;exact a2.1 aP (by omega)
   ·intro aa;refine .inr ⟨((j-aY.1.length:Nat):Int),a2.2 λe=>aa (.inr (by omega)),by omega⟩
 ·rw[lr];refine rM.2 ⟨h.cO,by simp,λx ad y aE e=>?_⟩;rw[ek]at aE;have:=h.IL x ad;omega
 ·rw[lr]at ae;rw[c2];rcases cE.1 ae with ae | ae
  ·have:=h.IL k ae;omega
  ·rw[ek]at ae;omega
def Ar.abN:∀ (fS:List (List an)) (aY:List an×List Int),Ar aY->(∀ l∈fS,hP (my l))->Ar (fS.foldl jB aY)/\(fS.foldl jB aY).2.length=aY.2.length+fS.length
 |[],aY,h,_=>⟨h,rfl⟩| l::fS,aY,h,ay=>by obtain⟨aa,ab⟩:=Ar.abN fS (jB aY l) (h.step (ay l (.head _))) λx ad=>ay x (.tail _ ad);refine⟨aa,?_⟩;rw[jn,ab];show(aY.2++[_]).length+_=_;simp;omega
def aoq{d:an}(ay:∀ l∈fS,hP (my l))(aA:fits d fS.length=true):hP (my (wb d fS)):=by
 obtain⟨h,cy⟩:=Ar.abN fS ([],[]) ⟨(λd aj=>by cases aj),(λj h=>absurd h (nM _)),.nil,(λj h=>absurd h (nM _)),.nil,(λk ae=>by cases ae)⟩ ay;have E7:=Mx h.ax;unfold wb;generalize fS.foldl jB ([],[])=aY at h cy E7;have gq:eO (aY.1++[d.eC aY.2])=eO aY.1++aY.2:=by unfold eO;rw[hd];simp[an.eC]
 have c2:(aY.1++[d.eC aY.2]).length=aY.1.length+1:=by simp
 refine⟨?_,λj ai=>?_,λj ai k ae=>?_,?_,λj ai=>?_⟩
 ·show 0<=(((aY.1++[d.eC aY.2]).length:Nat):Int)-1/\(((aY.1++[d.eC aY.2]).length:Nat):Int)-1<((aY.1++[d.eC aY.2]).length:Nat);omega
 ·have ai:j<(aY.1++[d.eC aY.2]).length:=ai;show fits ((aY.1++[d.eC aY.2])[j]'ai) ((((aY.1++[d.eC aY.2])[j]'ai).ax.length:Nat):Int)=true;rcases cE.1 (bx ai)with hm | hm
  ·exact h.fits _ hm
  ·rw[ek.1 hm,SP];show fits d (aY.2.length:Nat)=true;rw[cy];simpa using aA
 ·have ai:j<(aY.1++[d.eC aY.2]).length:=ai;have ae:k∈((aY.1++[d.eC aY.2])[j]'ai).ax:=ae;by_cases eM:j<aY.1.length
  ·rw[zt eM]at ae;exact h.ax j eM k ae
  ·have im:j<(aY.1++[d.eC aY.2]).length:=ai;have e:j=aY.1.length:=by omega
   subst e;rw[D5 (by omega)]at ae;have ae:k∈aY.2:=by simpa[an.eC]using ae
   have:=h.IL k ae;omega
 ·show hO (eO (aY.1++[d.eC aY.2]));rw[gq];refine rM.2 ⟨h.diff,h.cO,λx ad y aE e=>?_⟩;subst e;have aa:=E7 x ad;obtain⟨q,rfl⟩:=eA aa.1;exact(h.all q (by omega)).1 ad aE
 ·show(j:Int)∈eO (aY.1++[d.eC aY.2]) ↔ (j:Int)≠(((aY.1++[d.eC aY.2]).length:Nat):Int)-1;have ai:j<(aY.1++[d.eC aY.2]).length:=ai;rw[gq,cE,c2];by_cases eM:j<aY.1.length
  ·have a2:=h.all j eM;constructor
   ·intro _;omega
   ·intro _;by_cases hm:(j:Int)∈aY.2
    ·exact .inr hm
    ·exact .inl (a2.2 hm)
  ·constructor
   ·rintro(aa | aa)
    ·have:=E7 _ aa;omega
    ·have:=h.IL _ aa;omega
   ·intro bn;omega
def abO:∀ (fS:List (List an)) (aY:List an×List Int),(fS.foldl jB aY).1.length=aY.1.length+(fS.map List.length).sum
 |[],aY=>by simp
 |l::fS,aY=>by rw[jn,abO fS];show(aY.1++_).length+_=_;rw[cm,bF,cb,jK];omega
def aor(d:an)(fS:List (List an)):(wb d fS).length=(fS.map List.length).sum+1:=by unfold wb;rw[cm,abO];simp
def My{α:Type}{f g:α->Nat}:∀ {l:List α},(∀ x∈l,f x<=g x)->(l.map f).sum<=(l.map g).sum
 |[],_=>cc _| x::l,h=>by have aa:=h x (.head _);have ab:=My (l:=l) λy aE=>h y (.tail _ aE);simp only[cb,jK];omega
def abP{x:Nat}:∀ {l:List Nat},x∈l->x<=l.sum
 |y::l,h=>by
  rw[jK];rcases ee.1 h with rfl | h;·omega
  ·have:=abP h;omega
abbrev vm:=(aU×List Nat)×Bool
def aos:vm:=((bY,[]),false)
def nO(pl:List (ByteArray×Int))(F:List aU)(t:bR):vm:=abM aos (lG pl F) t
def abQ(pl:List (ByteArray×Int))(F:List aU)(t:bR):nO pl F t=o9 pl F t.ns t.bA:=rfl
def aot{pl:List (ByteArray×Int)}(af:right t=true):(nO pl F t).1.1=(eo pl F t.ns []).getD t.bA.toNat bY:=by obtain⟨k5,iO⟩:=qo af;obtain⟨r,fz⟩:=eA k5;rw[abQ,fz,Mh af (r+1) r (by omega) (by omega),Qe]
def abR{a:Nat}{ly:List Nat}:∀ {xs ys:List (aU×List Nat)},xs.length=ys.length->(∀ i (h:i<xs.length) (bd:i<ys.length),xs[i].1=ys[i].1/\∀ k∈xs[i].2,k∈ys[i].2\/(a∈ys[i].2/\k∈ly))->∀ k∈jO xs,k∈jO ys\/(a∈jO ys/\k∈ly)
 |[],[],_,_,k,h=>by cases h
 |x::xs,y::ys,ay,h,k,ae=>by
  have az:=h 0 (by simp) (by simp);simp only[uq]at az;rw[jO]at ae |-;rcases cE.1 ae with ae | ae
  ·rcases az.2 k ae with aa | ⟨aa,ab⟩
   ·exact .inl (jr _ aa)
   ·exact .inr ⟨jr _ aa,ab⟩
  ·rw[az.1]at ae;cases bb:y.1.z with
   |false=>rw[bb]at ae;cases ae
   |true=>
    rw[bb]at ae;rcases abR (xs:=xs) (ys:=ys) (by simpa using ay) (λi g dJ=>by
     have aa:=h (i+1) (by simp;omega) (by simp;omega);simpa only[F5]using aa) k ae with aa | ⟨aa,ab⟩
    ·exact .inl (ra _ aa)
    ·exact .inr ⟨ra _ aa,ab⟩
structure wP(a:Nat)(ly:List Nat)(rQ:Bool)(x y:vm):Prop where
 bj:x.1.1=y.1.1
 SQ:∀ k∈x.1.2,k∈y.1.2\/(a∈y.1.2/\k∈ly)
 e5:x.2=true->y.2=true\/rQ=true
def aou{a b:Bool}(h:(a||b)=true):a=true\/b=true:=by cases a<;>simp_all
end Go.V
