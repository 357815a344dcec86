/- Part 7 of what the proofs of this seat share: the executor, data in memory, walks.
-/
import Derived.Test.YtmncamccjfmbpaaGreatDoorK6
import Derived.Test.YtmncamccjfmbpaaGreatDoorK3
import Derived.Test.YtmncamccjfmbpaaGreatDoorK4
import Derived.Test.YtmncamccjfmbpaaGreatDoorK5
import Derived.Lib.TrailingZeros
set_option linter.all false
set_option maxHeartbeats 8000000
set_option maxRecDepth 100000
namespace Go.V
open Go
def nT:=@Nat.not_lt_zero
def yy:=@List.mem_or_eq_of_mem_set
def wY:=@List.any_eq_true
def CM:=@List.length_reverse
def Ax:=@List.flatMap_map
def Ay:=@List.map_flatMap
def Fg:=@List.pairwise_map
def Mw:=@decide_eq_true_iff
def Mx:=@Bool.eq_false_iff
def aa5:=@List.getElem_concat_length
def SC:=@List.idxOf_append
def SD:=@List.mem_reverse
def My:=@Bool.true_or
variable{D0 D:bP}{l:List Nat}{M M' M0 N:List aD}{a:Option Addr}{e f b T n size node:Nat}{Y:gN}{g:cv}{args us vs:List Value}{m':bp}{v:ap}{I J I':aJ}{arr:Array Value}{R α:Type}{w w':World}{P:Program}{t:bS}{s:dS}{x:Int}{ax:List Int}{os:aY}{F:List aW}{A:Nat->List Nat}{u:Value}{r:Int×Int}{fV:List (List ao)}
inductive vr where
 |cells(l:List ap)(T:Nat)| map (es:List (ap×ap))
noncomputable def IK:fG->Option vr
 | .cells cs T fH=>cs.EI 0 fH λl=>some (.cells l T)
 | .map es=>some (.map es)| _=>none
noncomputable def readAll(t:bf fG):Nat->Nat->Option (List vr)
 |_,0=>some []| id,n+1=>bo (t.get id) none λe=>bo (IK e) none λs=>bo (readAll t (Nat.add id 1) n) none λl=>some (s::l)
def SE(k:Nat):List (ap×ap)->List (ap×ap)
 |[]=>[]| p::l=>(jU k p.1,jU k p.2)::SE k l
noncomputable def vr.iU(k:Nat):vr->fG
 | .cells l T=>bf.yf (qV k l) .nil 0 λcs=>.cells cs T l.length
 | .map es=>.map (SE k es)
noncomputable def Mz{R:Type}(k:Nat):List vr->Nat->bf fG->(bf fG->R)->R
 |[],_,t,K=>K t| s::l,id,t,K=>t.nO (some (s.iU k)) id λt=>Mz k l (Nat.add id 1) t K
noncomputable def SF(v:ap)(L:List vr)(m:bp):Option (ap×bp):=r3 m.n λn=>r3 (Nat.add n L.length) λhS=>Mz n L n m.t λt=>some (jU n v,⟨t,hS⟩)
def aa6{t:bf fG}:∀ {n id:Nat} {L:List vr},readAll t id n=some L->L.length=n/\∀ j s,L[j]?=some s->∃ e,t.get (id+j)=some e/\IK e=some s
 |0,id,L,h=>by cases h;exact⟨rfl,by simp⟩
 |n+1,id,L,h=>by
  unfold readAll at h;obtain⟨e,aa,h⟩:=cp h;obtain⟨s,ab,h⟩:=cp h;obtain⟨l,aj,h⟩:=cp h;cases h;obtain⟨a8,ba⟩:=aa6 aj;refine⟨by simp[a8],λj b3 ai=>?_⟩;cases j with
  |zero=>cases ai;exact⟨e,aa,ab⟩| succ j=>obtain⟨cX,eg,cy⟩:=ba j b3 (by simpa using ai);refine⟨cX,?_,cy⟩;rw[<-eg];congr 1;show id+(j+1)=id+1+j;omega
def aa7(k:Nat):∀ (L:List vr) (id:Nat) (t:bf fG),∃ bq:bf fG,(∀ {R:Type} (K:bf fG->R),Mz k L id t K=K bq) /\ ∀ j e,bq.get j=some e->(id<=j/\∃ s,L[j-id]?=some s/\e=s.iU k)\/((j<id\/id+L.length<=j)/\t.get j=some e)
 |[],id,t=>⟨t,λK=>rfl,λj e h=>.inr ⟨by simp;omega,h⟩⟩
 |s::L,id,t=>by
  obtain⟨t1,aa,ab⟩:=bf.o1 (some (s.iU k)) t id;obtain⟨bq,aj,aI⟩:=aa7 k L (id+1) t1;refine⟨bq,λK=>?_,λj e h=>?_⟩;·unfold Mz;rw[aa];exact aj K
  ·rcases aI j e h with⟨a8,b3,ba,bQ⟩ | ⟨a8,ba⟩
   ·refine .inl ⟨by omega,b3,?_,bQ⟩;rw[show j-id=(j-(id+1))+1 by omega];simpa using ba
   ·rcases ab j e ba with⟨rfl,bQ⟩ | ⟨bQ,ft⟩
    ·refine .inl ⟨ca _,s,by simp,?_⟩;cases bQ;rfl
    ·refine .inr ⟨?_,ft⟩;simp only[dx];omega
def ang{k:Nat}(cW:∀ id a,D0 id=some a->D (Nat.add id k)=some a){es:List (ap×ap)}{l:List MapEntry}(h:qT D0 es l):qT D (SE k es) l:=by
 induction h with
 |nil=>exact .nil| cons ae ah t aL=>exact .cons (Ff cW _ ae) (Ff cW _ ah) aL
def aa8{k:Nat}:∀ {l:List ap} {i:Nat} {v:ap},(qV k l)[i]?=some v->∃ wW,l[i]?=some wW/\v=jU k wW
 |[],i,v,h=>by simp[qV]at h
 |x::l,0,v,h=>by simp only[qV,List.getElem?_cons_zero,jY]at h;exact⟨x,rfl,h.symm⟩
 |x::l,i+1,v,h=>by simp only[qV,F7]at h;simpa using aa8 h
def anh{k:Nat}(cW:∀ id a,D0 id=some a->D (Nat.add id k)=some a){E:Env}(a':∀ x∈M,x∈M'){a:Loc}{e:fG}{s:vr}(h:lC D0 E M a e)(af:IK e=some s):lC D E M' a (s.iU k):=by
 cases h with
 | @cells cs T fH arr az aa ab aj aI bB=>
  unfold IK at af;obtain⟨l,a8,ba,bQ⟩:=bf.EX cs fH 0 _ _ af;cases bQ;obtain⟨bq,eg,cy⟩:=bf.yl (qV k l) (.nil:bf ap) 0;show lC D E M' a (bf.yf (qV k l) .nil 0 λcs=>fG.cells cs T l.length);rw[eg,a8];refine .cells arr az (a' _ aa) ab (λi v hi au=>?_) aI bB;rcases cy i v au with⟨_,h⟩ | ⟨_,h⟩;·obtain⟨wW,aG,rfl⟩:=aa8 (by simpa using h);have:=ba i hi;rw[c8,aG]at this;obtain⟨x,f1,f2⟩:=aj i wW hi this;exact⟨x,f1,Ff cW _ f2⟩
  ·cases h
 |map l clock aa ab=>cases af;exact .map l clock (a' _ aa) (ang cW ab)| loop L aa ab=>cases af| done L aa ab aj=>cases af
def ani(aO:cT Y.P Y.E)(bG:wV Y.P)(iu:Y.P.follows .mixedOrders=true){g:Nat}{args:List ap}{jk:bp}{wW:ap}{L:List vr}(az:Aa ⟨Y.P,Y.E,λ_=>none,λ_ _ _=>none⟩ (lX ⟨Y.P,Y.E,λ_=>none,λ_ _ _=>none⟩ f) g args ⟨.nil,0⟩=some (wW,jk))(cc:readAll jk.t 0 jk.n=some L)(dX:∀ D us,bM D args us->bM (λ_=>none) args us){m:bp}(h:SF wW L m=some (v,m'))(hu:bM D args us)(hm:c9 Y D m I M) :
  Spec Y.P g us I M λr I' M'=>∃ bC,D.ext bC m.n/\aU bC v r/\c9 Y bC m' I' M':=by
 have l1:yw ⟨Y.P,Y.E,λ_=>none,λ_ _ _=>none⟩:=λg vs m v m' h=>by cases h
 have pV:c9 ⟨Y.P,Y.E,λ_=>none,λ_ _ _=>none⟩ (λ_=>none) ⟨.nil,0⟩ I []:=⟨λid e a h bc=>(by cases bc),λid iV e cX a bO h aa bc=>(by cases bc),λid a h=>(by cases h),λg cs h=>(by cases h)⟩;have ar:=(reckon (Y:=⟨Y.P,Y.E,λ_=>none,λ_ _ _=>none⟩) aO bG l1 iu az (dX D us hu) pV).frame (M:=M);refine Spec.qU ar ?_;rintro r I' mb⟨M0,rfl,bt,bm,D0,-,ah,Fh⟩;unfold SF at h;rw[RC,RC]at h;obtain⟨bq,aa,ab⟩:=aa7 m.n L m.n m.t;rw[aa]at h;cases h;obtain⟨a8,ba⟩:=aa6 cc;let bC:bP:=λid=>if id<m.n then D id else D0 (id-m.n)
 have cW:∀ id a,D0 id=some a->bC (Nat.add id m.n)=some a:=λid a a4=>by show(if id+m.n<m.n then D (id+m.n)else D0 (id+m.n-m.n))=some a;rw[bR (by omega),Nat.add_sub_cancel,a4]
 have kP:D.le bC:=λid a a4=>by show(if id<m.n then D id else D0 (id-m.n))=some a;rw[bN (hm.jS _ _ a4),a4]
 have lo:∀ id,id<m.n->bC id=D id:=λid hi=>bN hi;have cZ:∀ id,m.n<=id->bC id=D0 (id-m.n):=λid hi=>bR (by omega);have src:∀ id e a,bq.get id=some e->bC id=some a->(m.n<=id/\∃ s db,e=s.iU m.n/\jk.t.get (id-m.n)=some db/\IK db=some s/\D0 (id-m.n)=some a)\/(id<m.n/\m.t.get id=some e/\D id=some a):=λid e a he a4=>by
  rcases ab id e he with⟨eg,s,cy,gG⟩ | ⟨eg,cy⟩;·obtain⟨db,mm,IL⟩:=ba _ _ cy;rw[c8]at mm;rw[cZ _ eg]at a4;exact .inl ⟨eg,s,db,gG,mm,IL,a4⟩
  ·rcases Nat.lt_or_ge id m.n with aX | cI
   ·rw[lo _ aX]at a4;exact .inr ⟨aX,cy,a4⟩
   ·rw[cZ _ cI]at a4;have:=Fh.jS _ _ a4;omega
 refine⟨bC,λid hi=>lo id hi,Ff cW _ ah,⟨λid e a he a4=>?_,λid iV e cX a bO he rm a4 Cv ag=>?_,λid a a4=>?_,hm.qR.mono bm⟩⟩
 ·rcases src id e a he a4 with⟨eg,s,db,rfl,cy,gG,mm⟩ | ⟨eg,cy,gG⟩
  ·exact anh cW (λx ad=>hY _ ad) (Fh.iU _ _ _ cy mm) gG
  ·exact(hm.iU _ _ _ cy gG).mono kP λx ad _=>qg _ ad
 ·rcases src id e a he a4 with⟨eg,s,db,rfl,cy,gG,mm⟩ | ⟨eg,cy,gG⟩
  ·rcases src iV cX bO rm Cv with⟨CN,b3,anj,rfl,Az,IM,SG⟩ | ⟨CN,Az,IM⟩
   ·have:=Fh.inj _ _ _ _ _ _ cy Az mm SG ag;omega
   ·obtain⟨x,ad,qG⟩:=Fh.aq cy mm;obtain⟨y,aE,SH⟩:=hm.aq Az IM;exact(bt x ad y aE (qG.trans (ag.trans SH.symm))).elim
  ·rcases src iV cX bO rm Cv with⟨CN,b3,anj,rfl,Az,IM,SG⟩ | ⟨CN,Az,IM⟩
   ·obtain⟨x,ad,qG⟩:=Fh.aq Az SG;obtain⟨y,aE,SH⟩:=hm.aq cy gG;exact(bt x ad y aE (qG.trans (ag.symm.trans SH.symm))).elim
   ·exact hm.inj _ _ _ _ _ _ cy Az gG IM ag
 ·show id<m.n+L.length;rcases Nat.lt_or_ge id m.n with aX | cI
  ·omega
  ·rw[cZ _ cI]at a4;have:=Fh.jS _ _ a4;omega
open Go Go.Proofs
def ank(k:Nat):liesAt Tryz.prog Tryz.prog.depth 207 ((k+1)*2/Tryz.prog.cellsOf 207) 0 207 1=true:=by
 have ab:Tryz.prog.cellsOf 207=2:=by kernel_rfl
 have ak:Tryz.prog.depth=(Tryz.prog.depth-1)+1:=by kernel_rfl
 have e5:sameLayout Tryz.prog Tryz.prog.depth 207 207=true:=by kernel_rfl
 have af:rowAt Tryz.prog (sameLayout Tryz.prog Tryz.prog.depth · 207) Tryz.prog.depth 207 (k+1) 0 1=true:=by
  generalize aA:(sameLayout Tryz.prog Tryz.prog.depth · 207)=f;have v7:f 207=true:=by rw[<-aA];exact e5
  rw[ak];unfold rowAt;simp only[ab,v7];simp
 rw[ab,Nat.mul_div_cancel _ (by decide:0<2)];rw[ak];unfold liesAt;rw[af];rfl
def anl(a9 post:List aD)(b:Nat)(v:Value)(k:Nat)(bj:List Value)(af:bj.length=2*k) :
  Spec Tryz.prog 192 [ptr b] I (a9++⟨b,.cells (.pointer none::v::bj).toArray 207 (0,0)⟩::post) λr I' M'=>r=.tuple #[]/\I'=I/\M'=a9++⟨b,.cells (cm (.pointer none::v::bj) 0 [ptr b]).toArray 207 (0,0)⟩::post:=by
 obtain⟨inf,z,hi,fr,_⟩:=(a6 207 _ rfl).inf;refine cb [] a6 Tryz.func192 rfl rfl rfl ?_;intro B az;have hm:∀ {o:Obj},(⟨b,o⟩:aD)∈a9++⟨b,o⟩::post:=fun {o}=>cB.2 (.inr (.head _));have df:(Value.pointer none::v::bj).toArray.size=(k+1)*2:=by simp[af];omega
 have ay:liesAt Tryz.prog Tryz.prog.depth 207 ((Value.pointer none::v::bj).toArray.size/Tryz.prog.cellsOf 207) 0 207 1=true:=by rw[df];exact ank k
 refine aM.mk [.pointer none] (c4 (cs:=.pointer none::v::bj) (k:=0) (n:=1) (T:=207) hm (by simp)) ?_;refine .other (bz.KB a6 rfl (by simp) rfl rfl rfl rfl ?_);refine a2.mk (λ_=>?_) (λh=>by cases h);refine bz.conv rfl (by simp) rfl (λw hw=>Lib.run_to_unsafe (t:=207) (e:=207) w ⟨b,0,none⟩ (by kernel_rfl) (by kernel_rfl) (j:=inf) (cells:=(Value.pointer none::v::bj).toArray.size) hi (by rw[fr];decide) (KF hw hm) (by rw[df];show 0<_;omega)) ?_;refine be.mk (a9++⟨b,.cells (.pointer none::v::bj).toArray 207 (0,0)⟩::post) [] _ (by simp) (Pp _) ?_;rintro v I' M' -⟨rfl,rfl,rfl⟩;refine bz.conv rfl (by simp) rfl (λw hw=>Lib.run_from_unsafe (u:=207) (e:=207) w ⟨b,0,none⟩ (by kernel_rfl) (by kernel_rfl) (j:=inf) (cells:=(Value.pointer none::v::bj).toArray.size) hi (KF hw (cB.2 (.inl hm))) ay) ?_;refine b2.mk a9 post _ _ (ee _) rfl (by rw[df];show 0+0+1<=(k+1)*2;omega) rfl ?_;exact⟨_,_,.refl,rfl,rfl,rfl⟩
def anm(a':(⟨b,.cells arr T (0,0)⟩:aD)∈M)(az:arr[0]?=some (ptr b)) :
  Spec Tryz.prog 192 [ptr b] I M λr I' M'=>r=.tuple #[]/\I'=I/\M'=M:=by
 refine cb [] a6 Tryz.func192 rfl rfl rfl ?_;intro B iO;have af:cF I M ((⟨b,0,none⟩:Addr).add 0) 1 [ptr b]:=by
  obtain⟨l⟩:=arr;cases l with
  |nil=>simp at az| cons x l=>simp only[Bu,List.getElem?_cons_zero,jY]at az;subst az;exact c4 (cs:=ptr b::l) (k:=0) (n:=1) a' (by simp)
 refine aM.mk [ptr b] af ?_;refine .other (bz.KB a6 rfl (by simp) rfl rfl rfl rfl ?_);refine a2.mk (λh=>by cases h) (λ_=>?_);refine aM.mk [ptr b] af ?_;refine .other (bz.Wv a6 rfl (by simp) rfl rfl rfl rfl rfl ?_);refine a2.mk (λh=>by cases h) (λ_=>?_);exact⟨_,_,.refl,rfl,rfl,rfl⟩
def ann{m:bp}{id off:Nat}{cs:bf ap}{fH:Nat}{a:Loc}{a9 post:List aD}(hm:c9 Y D m I M)(au:m.t.get id=some (.cells cs T fH))(a4:D id=some a)(aH:a.o=0)(dL:M=a9++⟨a.b,.cells arr T (0,0)⟩::post)(df:a.o+fH<=arr.size)(an:∀ i v,i<fH->cs.get i=some v->∃ x,arr[a.o+i]?=some x/\aU D v x)(ae:∀ i,Y.E T=some i->arr.size=a.o+a.c*i.size)(iu:a.c<=maxLen)
  {l:List ap} (ay:bM D l vs) {K:bp->Option R} {r:R} (h:yj m (.p id off) l K=some r) :
  ∃ m',K m'=some r/\m'.n=m.n/\off+vs.length<=arr.size/\c9 Y D m' I (a9++⟨a.b,.cells (cm arr.toList off vs).toArray T (0,0)⟩::post):=by
 unfold yj at h;simp only[au]at h;cases ag:(Nat.ble (Nat.add off l.length) fH&&l.all ap.one)with
 |false=>rw[ag]at h;cases h
 |true=>
  rw[ag]at h;simp only[b5]at h;rw[cz]at ag;have Al:off+l.length<=fH:=bJ ag.1;obtain⟨cs',aa,ab⟩:=bf.yl l cs off;rw[aa]at h;obtain⟨bq,aj,aI⟩:=bf.o1 (some (fG.cells cs' T fH)) m.t id;rw[aj]at h;have c2:=ay.len;have jv:off+vs.length<=arr.size:=by omega
  refine⟨_,h,rfl,jv,?_⟩;have e7:∀ x∈M,x.num≠a.b->x∈a9++⟨a.b,.cells (cm arr.toList off vs).toArray T (0,0)⟩::post:=λx ad aB=>by
   rw[dL]at ad;rcases cB.1 ad with ad | ad;·exact cB.2 (.inl ad)
   ·rcases ec.1 ad with rfl | ad
    ·exact(aB rfl).elim
    ·exact cB.2 (.inr (nQ _ ad))
  refine hm.step (λi e hi=>(aI i e hi).imp (λq=>⟨q.1,o3 q.2⟩) λq=>q) a4 (bP.le_refl D) (λ_ _=>rfl) hm.jS (λ_ _ h=>h) (λi e bO bt hi oW x ad aB=>e7 x ad ?_) ?_ ?_;·rw[aB];exact λag=>bt (hm.inj _ _ _ _ _ _ hi au oW a4 ag)
  ·have Am:(cm arr.toList off vs).length=arr.size:=by rw[RW (by simpa using jv)];simp
   refine .cells (cm arr.toList off vs).toArray aH (by simp) (by simp[Am];exact df) (λi v hi vj=>?_) (λi hi=>by simp[Am];exact ae i hi) iu;rw[aH,c8];simp only[Bu];rw[Z2 (by simpa using jv)];rcases ab i v vj with⟨a8,ba⟩ | ⟨a8,ba⟩;·have aX:=(ia.1 ba).1;rw[bN ⟨a8,by omega⟩];exact ay.get ba
   ·rw[bR (by omega)];have:=an i v hi ba;rw[aH,c8]at this;simpa using this
  ·intro i e bO bt hi oW ag;exact bt (hm.inj _ _ _ _ _ _ hi au oW a4 ag)
noncomputable def SI(m:bp)(vs:List ap):Option (ap×bp):=match vs with
 |[.p id 0]=>(match m.t.get id with
  |some (.cells cs T fH)=>bY (Nat.beq T 207&&Nat.ble 2 fH) (match cs.get 0 with
   |some .pn=>yj m (.p id 0) [.p id 0] λm=>some (.t [],m)
   |some (.p iV 0)=>bY (Nat.beq id iV) (some (.t [],m)) none| _=>none) none
  |_=>none)
 |_=>none
def ano(qx:Y.P=Tryz.prog)(anp:Y.E=qs){m:bp}{vs:List ap}(h:SI m vs=some (v,m'))(hu:bM D vs us)(hm:c9 Y D m I M) :
  Spec Y.P 192 us I M λr I' M'=>∃ bC,D.ext bC m.n/\aU bC v r/\c9 Y bC m' I' M':=by
 unfold SI at h;split at h
 ·rename_i id;obtain⟨x,xs,ad,aB,rfl⟩:=hu.kF;obtain rfl:=aB.nP;obtain⟨a,a4,rfl⟩:=ad.ptr;split at h
  ·rename_i cs T fH au;obtain⟨aa,aR⟩:=fW h;clear h;rw[cz]at aa;obtain⟨bu,Al⟩:=aa;obtain rfl:=dP bu;have Al:=bJ Al;obtain⟨arr,aH,a',ay,an,ae,iu⟩:=hm.iU _ _ _ au a4;have df:=ae _ (by rw[anp];rfl);have df:arr.size=a.c*2:=by rw[df,aH,c8]
   have aC:Value.pointer (some ⟨a.b,a.o+0,none⟩)=ptr a.b:=by rw[aH];rfl
   split at aR
   ·rename_i zr;obtain⟨sy,gx,SJ⟩:=an 0 _ (by omega) zr;obtain⟨a9,post,dL⟩:=vi a';obtain⟨c5,ab,aj,aI,bB⟩:=ann hm au a4 aH dL ay an ae iu (l:=[.p id 0]) (vs:=[ptr a.b]) (by simp only[bM,aU];exact⟨_,_,⟨a,a4,aC.symm⟩,rfl,rfl⟩) aR;cases ab;rw[aC,qx,dL];obtain⟨l⟩:=arr;have anq:sy=.pointer none:=by simpa only[aU]using SJ
    rw[aH]at gx
    match l,gx,df with
    |[],gx,_=>simp at gx| [_],_,df=>simp at df;omega
    |y::w::bj,gx,df=>
     have aE:y=.pointer none:=by simpa[anq]using gx
     subst aE;have fv:bj.length=2*(a.c-1):=by simp at df;omega
     refine Spec.qU (anl a9 post a.b w (a.c-1) bj fv) ?_;rintro r I' M'⟨rfl,rfl,rfl⟩;exact⟨D,bP.o5,by simp only[aU,bM];exact⟨[],rfl,rfl⟩,bB⟩
   ·rename_i iV zr;obtain⟨ab,u'⟩:=fW aR;obtain rfl:=dP ab;cases u';obtain⟨sy,gx,SJ⟩:=an 0 _ (by omega) zr;obtain⟨bO,Cv,rfl⟩:=SJ.ptr;rw[a4]at Cv;cases Cv;rw[aC]at gx |-;rw[qx];refine Spec.qU (anm a' (by rw[<-gx,aH])) ?_;rintro r I' M'⟨rfl,rfl,rfl⟩;exact⟨D,bP.o5,by simp only[aU,bM];exact⟨[],rfl,rfl⟩,hm⟩
   ·cases aR
  ·cases h
 ·cases h
def lE(I:aJ):List aD->aJ
 |[]=>I| x::l=>ins (lE I l) x.num x.obj
def MA{I:aJ}:∀ {M:List aD} {b:Nat} {o:Obj},lE I M b=some o->I b=some o\/∃ x∈M,x.num=b/\x.obj=o
 |[],b,o,h=>.inl h
 |x::l,b,o,h=>by
  unfold lE ins at h;by_cases e:b=x.num;·subst e;simp only[q5,b5,jY]at h;exact .inr ⟨x,by simp,rfl,h⟩
  ·simp only[hs e,b']at h;rcases MA h with h | ⟨y,aa,ab,aj⟩
   ·exact .inl h
   ·exact .inr ⟨y,by simp[aa],ab,aj⟩
def aa9{I:aJ}:∀ {M:List aD} (aB:(M.map (·.num)).Nodup) {x:aD},x∈M->lE I M x.num=some x.obj
 |y::l,aB,x,h=>by
  simp only[b0,lL]at aB;rcases ec.1 h with rfl | h;·unfold lE ins;simp only[q5,b5]
  ·have e:x.num≠y.num:=λe=>aB.1 (cN.2 ⟨x,h,e⟩);unfold lE ins;simp only[hs e,b'];exact aa9 aB.2 h
def SK{I:aJ}:∀ {M:List aD} (ak:∀ x∈M,I x.num=none) {b:Nat} {o:Obj},I b=some o->lE I M b=some o
 |[],ak,b,o,h=>h
 |y::l,ak,b,o,h=>by
  have e:b≠y.num:=λe=>by have:=ak y (by simp);rw[<-e,h]at this;cases this
  unfold lE ins;simp only[hs e,b'];exact SK (λx ad=>ak x (by simp[ad])) h
def anr(aB:(M.map (·.num)).Nodup)(ak:∀ x∈M,I x.num=none){o:Obj}(h:ib I M b o):lE I M b=some o:=by
 rcases h with h | ⟨x,aa,rfl,rfl⟩
 ·exact SK ak h
 ·exact aa9 aB aa
structure vt(I:aJ)(M:List aD)(J:aJ):Prop where
 aN:∀ b o,ib I M b o->J b=some o
 inv:∀ b o,J b=some o->ib I M b o
def vt.le(h:vt I M J):∀ b o,I b=some o->J b=some o:=λb o ag=>h.aN b o (.inl ag)
def aba(aa:eE I' M' w')(ab:Kept I [] w I' M' w'):vt I' M' (lE I' M')/\eE (lE I' M') [] w'/\Kept I [] w (lE I' M') [] w':=by
 refine⟨⟨λb o h=>anr aa.cd aa.d h,λb o h=>?_⟩,⟨λb o h=>?_,by simp,by simp,by simp⟩,⟨λb o h=>SK aa.d (ab.le _ _ h),λb o h=>?_,by simp,ab.dH,ab.out,ab.sz⟩⟩
 ·rcases MA h with h | ⟨x,a8,ba,bQ⟩
  ·exact .inl h
  ·exact .inr ⟨x,a8,ba,bQ⟩
 ·rcases MA h with h | ⟨x,a8,rfl,rfl⟩
  ·exact aa.i _ _ h
  ·exact aa.m _ a8
 ·rcases MA h with h | ⟨x,a8,rfl,rfl⟩
  ·exact ab.uy _ _ h
  ·rcases ab.vM _ a8 with⟨y,aE,_⟩ | h
   ·cases aE
   ·exact .inr h
def Spec.lE{Q:Value->aJ->List aD->Prop}(h:Spec P f args I [] Q):Spec P f args I [] λr J mb=>mb=[]/\(∀ b o,I b=some o->J b=some o)/\∃ I' M',Q r I' M'/\vt I' M' J:=by
 rcases h with⟨aa,ab⟩ | h
 ·refine .inl ⟨aa,λw hw=>?_⟩;refine(ab w hw).mono ?_;rintro e w'⟨v,I',M',aG,a7,cn,dr⟩;obtain⟨a8,ba,bQ⟩:=aba cn dr;exact⟨v,_,[],aG,⟨rfl,bQ.le,I',M',a7,a8⟩,ba,bQ⟩
 ·refine .inr λw hw=>?_;obtain⟨v,w',I',M',aG,a7,cn,dr⟩:=h w hw;obtain⟨a8,ba,bQ⟩:=aba cn dr;exact⟨v,w',_,[],aG,⟨rfl,bQ.le,I',M',a7,a8⟩,ba,bQ⟩
noncomputable def CO{α:Type}(l:List α):bf α:=bf.yf l .nil 0 id
def abb{l:List α}{i:Nat}{v:α}(h:(CO l).get i=some v):l[i]?=some v:=by
 obtain⟨t,aa,ab⟩:=bf.yl l (.nil:bf α) 0;unfold CO at h;rw[aa]at h;rcases ab _ _ h with⟨_,h⟩ | ⟨_,h⟩
 ·simpa using h
 ·cases h
noncomputable def MB:GT:=λg=>bY (Nat.beq g 0) (some (CO (lp.map (ap.i .i64)))) (bY (Nat.beq g 1) (some (CO (uV.map ap.s))) (bY (Nat.beq g 2) (some (CO [.i .i64 0,.i .i64 1,.s [63],.i .i64 0,.i .i64 (-1),.s [42],.i .i64 1,.i .i64 (-1),.s [43]])) (bY (Nat.beq g 3) (some (CO (hP.map (ap.i .u8)))) none)))
def SL{f:α->ap}{h:α->Value}(aA:∀ x D,aU D (f x) (h x)){l:List α}{i:Nat}(ah:(CO (l.map f)).get i=some v):∃ x,(l.map h).toArray[i]?=some x/\∀ D,aU D v x:=by
 have:=abb ah;rw[jH]at this;cases ad:l[i]? with
 |none=>rw[ad]at this;cases this| some x=>rw[ad]at this;simp only[k9,jY]at this;subst this;exact⟨h x,by simp[ad],aA x⟩
def ans(bu:ga I hP):Ij MB I:=by
 intro g cs h;unfold MB at h;rw[kE,kE,kE,kE]at h;cases aa:Nat.beq g 0 with
 |true=>rw[aa,b5]at h;obtain rfl:=dP aa;have h:=fh h;subst h;obtain⟨T,f,h⟩:=bu.c;exact⟨_,T,f,h,λi v ah=>SL (f:=ap.i .i64) (h:=Value.int .i64) (λx D=>by simp only[aU]) ah⟩
 |false=>
 rw[aa,b']at h;cases ab:Nat.beq g 1 with
 |true=>rw[ab,b5]at h;obtain rfl:=dP ab;have h:=fh h;subst h;obtain⟨T,f,h⟩:=bu.s;exact⟨_,T,f,h,λi v ah=>SL (f:=ap.s) (h:=λl=>Value.string (strOf l)) (λx D=>by simp only[aU,strOf]) ah⟩
 |false=>
 rw[ab,b']at h;cases aj:Nat.beq g 2 with
 |true=>
  rw[aj,b5]at h;obtain rfl:=dP aj;have h:=fh h;subst h;obtain⟨T,f,h⟩:=bu.p;refine⟨_,T,f,h,λi v ah=>?_⟩;have ah:=abb ah;rcases i with _ | _ | _ | _ | _ | _ | _ | _ | _ | i
  all_goals first | (cases ah;exact⟨_,rfl,λD=>by simp only[aU]<;>rfl⟩) | (simp at ah)
 |false=>
 rw[aj,b']at h;cases aI:Nat.beq g 3 with
 |true=>rw[aI,b5]at h;obtain rfl:=dP aI;have h:=fh h;subst h;obtain⟨_,_,T,f,h⟩:=bu.d;exact⟨_,T,f,h,λi v ah=>SL (f:=ap.i .u8) (h:=Value.int .u8) (λx D=>by simp only[aU]) ah⟩
 |false=>
 rw[aI,b']at h;cases h
noncomputable def MC:List UInt8->Nat->Nat->Int
 |[],_,_=>-1| b::l,c,k=>bY (Nat.beq b.toNat c) (Int.ofNat k) (MC l c (Nat.succ k))
def abc(c:UInt8):∀ (l:List UInt8) (k:Nat),MC l c.toNat k=if Lib.indexByte l c=-1 then -1 else Lib.indexByte l c+k
 |[],k=>rfl
 |b::l,k=>by
  have cI:=Lib.indexByte_ge l c;unfold MC Lib.indexByte;rw[kE];by_cases h:b=c;·subst h;simp
  ·have aa:Nat.beq b.toNat c.toNat=false:=by
    cases ag:Nat.beq b.toNat c.toNat with
    |false=>rfl| true=>exact absurd (UInt8.toNat_inj.1 (dP ag)) h
   have ab:(b == c)=false:=by simpa using h
   rw[aa,b',ab,abc c l];simp only[k8,lM];by_cases aj:Lib.indexByte l c=-1;·simp[aj]
   ·have aI:(Lib.indexByte l c == -1)=false:=by simpa using aj
    rw[aI,bR aj];simp only[k8,lM];rw[bR (by omega)];omega
def abd:wV Tryz.prog:=amN (by kernel_rfl)
def abe:Tryz.prog.follows .mixedOrders=true:=by kernel_rfl
noncomputable def abf:gN:=⟨Tryz.prog,qs,λ_=>none,λ_ _ _=>none⟩
noncomputable def abg:List vr:=[.map [(.i .u8 123,.f 284 [] []),(.i .u8 34,.f 285 [] []),(.i .u8 91,.f 286 [] []),(.i .u8 46,.f 287 [] []),(.i .u8 47,.f 306 [] [.p 1 0]),(.i .u8 38,.f 306 [] [.p 2 0]),(.i .u8 33,.f 306 [] [.p 3 0]),(.i .u8 63,.f 306 [] [.p 4 0]),(.i .u8 42,.f 306 [] [.p 5 0]),(.i .u8 43,.f 306 [] [.p 6 0]),(.i .u8 40,.f 306 [] [.p 7 0]),(.i .u8 41,.f 306 [] [.p 8 0]),(.i .u8 60,.f 289 [] []),(.i .u8 62,.f 306 [] [.p 10 0]),(.i .u8 58,.f 306 [] [.p 11 0]),(.i .u8 65,.f 290 [] []),(.i .u8 66,.f 290 [] []),(.i .u8 67,.f 290 [] []),(.i .u8 68,.f 290 [] []),(.i .u8 69,.f 290 [] []),(.i .u8 70,.f 290 [] []),(.i .u8 71,.f 290 [] []),(.i .u8 72,.f 290 [] []),(.i .u8 73,.f 290 [] []),(.i .u8 74,.f 290 [] []),(.i .u8 75,.f 290 [] []),(.i .u8 76,.f 290 [] []),(.i .u8 77,.f 290 [] []),(.i .u8 78,.f 290 [] []),(.i .u8 79,.f 290 [] []),(.i .u8 80,.f 290 [] []),(.i .u8 81,.f 290 [] []),(.i .u8 82,.f 290 [] []),(.i .u8 83,.f 290 [] []),(.i .u8 84,.f 290 [] []),(.i .u8 85,.f 290 [] []),(.i .u8 86,.f 290 [] []),(.i .u8 87,.f 290 [] []),(.i .u8 88,.f 290 [] []),(.i .u8 89,.f 290 [] []),(.i .u8 90,.f 290 [] []),(.i .u8 95,.f 290 [] []),(.i .u8 97,.f 290 [] []),(.i .u8 98,.f 290 [] []),(.i .u8 99,.f 290 [] []),(.i .u8 100,.f 290 [] []),(.i .u8 101,.f 290 [] []),(.i .u8 102,.f 290 [] []),(.i .u8 103,.f 290 [] []),(.i .u8 104,.f 290 [] []),(.i .u8 105,.f 290 [] []),(.i .u8 106,.f 290 [] []),(.i .u8 107,.f 290 [] []),(.i .u8 108,.f 290 [] []),(.i .u8 109,.f 290 [] []),(.i .u8 110,.f 290 [] []),(.i .u8 111,.f 290 [] []),(.i .u8 112,.f 290 [] []),(.i .u8 113,.f 290 [] []),(.i .u8 114,.f 290 [] []),(.i .u8 115,.f 290 [] []),(.i .u8 116,.f 290 [] []),(.i .u8 117,.f 290 [] []),(.i .u8 118,.f 290 [] []),(.i .u8 119,.f 290 [] []),(.i .u8 120,.f 290 [] []),(.i .u8 121,.f 290 [] []),(.i .u8 122,.f 290 [] [])],.cells [.i .u8 3] 5,.cells [.i .u8 4] 5,.cells [.i .u8 5] 5,.cells [.i .u8 6] 5,.cells [.i .u8 7] 5,.cells [.i .u8 8] 5,.cells [.i .u8 9] 5,.cells [.i .u8 10] 5,.cells [.i .u8 11] 5,.cells [.i .u8 12] 5,.cells [.i .u8 13] 5]
def ant:(bo (Aa abf (lX abf 100000) 273 [] ⟨.nil,0⟩) none λp=>bo (readAll p.2.t 0 p.2.n) none λL=>some (p.1,L))=some (ap.m 0,abg):=by kernel_rfl
noncomputable def SM:lW:=λg vs m=>bY (Nat.beq g 325) (match vs with
 |[.s l,.i .u8 (.ofNat k)]=>bY (Nat.blt k 256) (some (.i .i64 (MC l k 0),m)) none| _=>none) (bY (Nat.beq g 234) (match vs with
 |[v]=>some (v,m)| _=>none) (bY (Nat.beq g 273) (match vs with
 |[]=>SF (.m 0) abg m| _=>none) (bY (Nat.beq g 192) (SI m vs) none)))
noncomputable def yz:gN:=⟨Tryz.prog,qs,MB,SM⟩
def anu:yw yz:=by
 intro g vs m v m' h D I M us hu hm;change SM g vs m=some (v,m')at h;unfold SM at h;rw[kE]at h;cases aa:Nat.beq g 325 with
 |true=>
  rw[aa,b5]at h;obtain rfl:=dP aa;split at h
  ·rename_i l k;rw[kE]at h;cases ae:Nat.blt k 256 with
   |false=>rw[ae]at h;cases h
   |true=>
    rw[ae,b5]at h;have hd:k<256:=Nat.blt_eq ▸ ae;cases h;simp only[bM,aU]at hu;obtain⟨x,xs,rfl,⟨y,ys,rfl,rfl,rfl⟩,rfl⟩:=hu;have rU:(UInt8.ofNat k).toNat=k:=by simp;omega
    have:=Wx (I:=I) (M:=M) ⟨l.toArray⟩ (UInt8.ofNat k);rw[rU]at this;refine Spec.qU this ?_;rintro r I' M'⟨rfl,rfl,rfl⟩;refine⟨D,bP.o5,?_,hm⟩;simp only[aU];have:=abc (UInt8.ofNat k) l 0;rw[rU]at this;rw[this];split;·rename_i e;simp[e]
    ·simp
  ·cases h
 |false=>
 rw[aa,b',kE]at h;cases ab:Nat.beq g 234 with
 |true=>
  rw[ab,b5]at h;obtain rfl:=dP ab;split at h;·cases h;simp only[bM]at hu;obtain⟨x,xs,hu,rfl,rfl⟩:=hu;refine Spec.qU (Pp _) ?_;rintro r I' M'⟨rfl,rfl,rfl⟩;exact⟨D,bP.o5,hu,hm⟩
  ·cases h
 |false=>
 rw[ab,b',kE]at h;cases aj:Nat.beq g 273 with
 |true=>
  rw[aj,b5]at h;obtain rfl:=dP aj;split at h;·obtain⟨⟨wW,jk⟩,aI,bB⟩:=cp ant;obtain⟨L,b4,ef⟩:=cp bB;cases ef;exact ani (Y:=yz) a6 abd abe aI b4 (λD us h=>by simpa only[bM]using h) h hu hm
  ·cases h
 |false=>
 rw[aj,b',kE]at h;cases aI:Nat.beq g 192 with
 |true=>rw[aI,b5]at h;obtain rfl:=dP aI;exact ano rfl rfl h hu hm
 |false=>
 rw[aI,b']at h;cases h
def anv(bu:ga I hP){g:Nat}{args:List ap}(h:Aa yz (lX yz f) g args ⟨.nil,0⟩=some (v,m'))(hu:bM (λ_=>none) args us) :
  Spec Tryz.prog g us I [] λr J mb=>mb=[]/\(∀ b o,I b=some o->J b=some o)/\∃ I' M' bC,aU bC v r/\c9 yz bC m' I' M'/\vt I' M' J:=by
 have hm:c9 yz (λ_=>none) ⟨.nil,0⟩ I []:=⟨λid e a h bc=>(by cases bc),λid iV e cX a bO h aa bc=>(by cases bc),λid a h=>(by cases h),ans bu⟩;refine Spec.qU (reckon (Y:=yz) a6 abd anu abe h hu hm).lE ?_;rintro r J mb⟨rfl,aa,I',M',⟨bC,-,ab,aj⟩,aI⟩;exact⟨rfl,aa,I',M',bC,ab,aj,aI⟩
def anw:∀ {l:List Int} (h:0<l.length),l.headD 0=l[0]
 |a::l,_=>rfl
def oe(ns:List ao)(xs:List aW):Bool:=ns.any λd=>decide (d.k=6)&&(decide (d.hi=-1)&&(xs.getD (d.aw.headD 0).toNat bZ).z)
def anx(p:α->Bool)(l:List α)(x:α):(l++[x]).any p=(l.any p||p x):=by simp
def anz{p:α->Bool}{l:List α}{i:Nat}(h:(l.take i).any p=true):l.any p=true:=by rw[wY]at h |-;obtain⟨x,ad,aC⟩:=h;exact⟨x,Kv ad,aC⟩
def anA(av:t.ok I)(af:right t=true){xa:Option Addr}{xc:Nat}{xs:List aW}(ad:lV I M0 xa t.n xs):Spec Tryz.prog 162 [t.val,.slice xa t.n xc] I M0 λv I' M'=>v=.bool (oe t.ns xs)/\I'=I/\M'=M0:=by
 refine cb [] a6 Tryz.func162 rfl rfl rfl ?_;intro B az;have hD:=av.n;have jx:=av.a0.cap;have qG:=ad.n;refine di.inv (ι:=Nat) (λi=>{ bi:=[(1,.val (.slice xa t.n xc)),(8,.val (.slice t.a t.n t.c)),(9,.val (.int .i64 t.n)),(10,.val (.int .i64 i))],cD:=I,c0:=M0 }) (λi=>i<=t.n/\(t.ns.take i).any (λd=>decide (d.k=6)&&(decide (d.hi=-1)&&(xs.getD (d.aw.headD 0).toNat bZ).z))=false) (λi=>t.n-i) ?_ ?_
 ·exact⟨0,⟨dD _,rfl⟩,.refl,ew,.nil⟩
 rintro i⟨hi,ea⟩;refine a2.mk (λh=>?_) (λh=>?_)
 rotate_left
 ·have cI:i=t.n:=by have:¬ (i:Int)<(t.n:Int):=ek h;omega
  rw[fA (by omega)]at ea;refine⟨_,_,.refl,?_,rfl,rfl⟩;rw[oe,ea]
 have aX:i<t.n:=by have:(i:Int)<(t.n:Int):=dw h;omega
 have cj:i<t.ns.length:=by omega
 obtain⟨aS,bH,bl⟩:=av.a0.row ao.cP aX cj;have ak:=av.ns _ (br cj);have tP:=D3 af cj;have jg:=mj af i cj;have e':=ak.aN;have iS:(t.ns.take (i+1)).any (λd=>decide (d.k=6)&&(decide (d.hi=-1)&&(xs.getD (d.aw.headD 0).toNat bZ).z))=(decide (t.ns[i].k=6)&&(decide (t.ns[i].hi=-1)&&(xs.getD (t.ns[i].aw.headD 0).toNat bZ).z)):=by rw[gg cj,anx,ea,uF]
 generalize t.ns[i]=d at bl ak tP jg e' iS;refine bd.mk aS i bH rfl aX ?_;refine aM.mk _ (bl _) ?_;refine ct.mk (λb4=>?_) (λb4=>?_)
 rotate_left
 ·have MD:decide (d.k=6)=false:=b4;rw[MD]at iS;refine bg.mk _ (cL (i:=i) (by omega)) ?_;exact⟨i+1,⟨⟨aX,iS⟩,by omega⟩,.refl,ew,.nil⟩
 have MD:decide (d.k=6)=true:=b4;have avF:d.k=6:=dw MD;rw[MD,n2]at iS;refine ct.mk (λaa=>?_) (λaa=>?_)
 rotate_left
 ·have tz:decide (d.hi=-1)=false:=aa;rw[tz]at iS;refine bg.mk _ (cL (i:=i) (by omega)) ?_;exact⟨i+1,⟨⟨aX,iS⟩,by omega⟩,.refl,ew,.nil⟩
 have tz:decide (d.hi=-1)=true:=aa;rw[tz,n2]at iS;have kV:0<d.aw.length:=by have:=X5 ak.k.1 tP (by omega);omega
 obtain⟨gk,fu,fb⟩:=ak.a0.one (j:=0) (by omega) kV;have ah:=jg _ (br kV);have cS:d.aw.headD 0=d.aw[0]:=anw kV;rw[cS]at iS;have fe:d.aw[0].toNat<xs.length:=by omega
 obtain⟨SN,SO,mG⟩:=ad.rd _ fe;have au:xs.getD d.aw[0].toNat bZ=xs[d.aw[0].toNat]:=by simp[bA,fe]
 rw[au]at iS;refine bd.mk gk 0 fu rfl (by omega) ?_;refine aM.mk _ (fb _) ?_;refine bd.mk SN d.aw[0].toNat SO (by omega) (by omega) ?_;refine aM.mk _ (mG.part (k:=0) (m:=1) (by decide)) ?_;refine a2.mk (λbb=>?_) (λbb=>?_)
 ·have g9:xs[d.aw[0].toNat].z=true:=bb;refine⟨_,_,.refl,?_,rfl,rfl⟩;rw[oe,anz (i:=i+1) (by rw[iS,g9])]
 ·have g9:xs[d.aw[0].toNat].z=false:=bb;rw[g9]at iS;refine bg.mk _ (cL (i:=i) (by omega)) ?_;exact⟨i+1,⟨⟨aX,iS⟩,by omega⟩,.refl,ew,.nil⟩
def dS.mark(s:dS)(i k:Nat):dS:=⟨s.n,s.m.set i (s.m.getD i 0 ||| lA k),s.w⟩
def kH(b:Nat)(s:dS):aD:=⟨b,.cells s.cells.toArray 158 (0,0)⟩
def dS.cP(s:dS):s.cells.length=66:=by simp[dS.cells,tY]
def anB(a':kH b s∈M){j:Nat}(ai:j<64):cF I M (((⟨b,0,none⟩:Addr).add 1).add (j*1)) 1 [o2 (s.m.getD j 0)]:=by rw[eP (⟨b,0,none⟩:Addr) rfl,eP _ rfl];refine⟨rfl,_,_,_,.inr ⟨_,a',rfl,rfl⟩,?_,rfl⟩;simp only[c8,e2];show(s.cells.drop (1+j)).take 1=_;rw[dS.cells,Dv 1 j,HR,Qz (by rw[tY];omega),eV (by rw[tY];exact ai),m4,qh,rl];simp[k2]
def anC(ar:s.m.length=64){i k:Nat}(hi:i<64):cm s.cells (0+1+i*1) [o2 (s.m.getD i 0 ||| lA k)]=(s.mark i k).cells:=by
 unfold dS.cells dS.mark;simp only;have aG:cm (Value.int .i64 s.n::(k2 s.m++[o2 s.w])) (0+1+i*1) [o2 (s.m.getD i 0 ||| lA k)]=Value.int .i64 s.n::(cm (k2 s.m) (0+i*1) [o2 (s.m.getD i 0 ||| lA k)]++[o2 s.w]):=by have h:=ZH [Value.int .i64 s.n] (k2 s.m) [o2 s.w] i [o2 (s.m.getD i 0 ||| lA k)] (by rw[tY];show i+1<=64;omega);simp only[pN,rW,dx,fS,c8,e2]at h |-;exact h
 rw[aG,ZR s.m ar i hi]
def b2.anD{x y:Nat}{K:List aD->Prop}(a9 post:List aD)(cs:List Value)(T:Nat)(a':M=a9++⟨b,.cells cs.toArray T (0,0)⟩::post)(ag:0+x+y+vs.length<=cs.length)(aa:gv vs=true)
  (cs':List Value) (he:cm cs (0+x+y) vs=cs') (h:K (a9++⟨b,.cells cs'.toArray T (0,0)⟩::post)):b2 M (((⟨b,0,none⟩:Addr).add x).add y) vs K:=by
 rw[eP (⟨b,0,none⟩:Addr) rfl,eP _ rfl];exact b2.rZ a9 post cs.toArray T a' rfl (by rw[nK];simpa using ag) aa cs' he h
def anE{M1:List aD}(au:g.ok I){nm:ByteArray}{k:Nat}(ae:cu nm g.ds 0=k)(SP:k<64){b1 b6 b7 i:Nat}(hi:i<64)(ar:s.m.length=64)(aa:(⟨b1,.cells #[.slice g.a g.n g.c] 24 (0,0)⟩:aD)∈M1)(ef:(⟨b7,.cells #[.int .i64 i] 3 (0,0)⟩:aD)∈M1) :
  Spec Tryz.prog 161 [.string nm,ptr b1,ptr b6,ptr b7] I (kH b6 s::M1) λv I' M'=>I'=I/\M'=kH b6 (s.mark i k)::M1:=by
 refine cb [] a6 Tryz.func161 rfl rfl rfl ?_;intro B az;refine aM.mk [.slice g.a g.n g.c] ⟨rfl,_,_,_,.inr ⟨_,.tail _ aa,rfl,rfl⟩,rfl,rfl⟩ ?_;have aA:Spec Tryz.prog 31 [g.val,.string nm] I (kH b6 s::M1) λv I' M'=>v=.int .i64 k/\I'=I/\M'=kH b6 s::M1:=by refine Spec.qU (Spec.frame (KR au nm)) ?_;rintro v J M⟨M',rfl,-,-,rfl,rfl,rfl⟩;rw[ae];exact⟨rfl,rfl,rfl⟩
 refine be.whole _ aA ?_;rintro v J N -⟨rfl,bk,gf⟩;subst J;subst N;refine a2.mk (λ_=>?_) (λh=>?_)
 rotate_left
 ·have:¬ (0:Int)<=(k:Int):=ek h;omega
 refine cV.draw a6 rfl rfl rfl ?_;refine aM.mk [.int .i64 i] ⟨rfl,_,_,_,.inr ⟨_,.tail _ ef,rfl,rfl⟩,rfl,rfl⟩ ?_;refine eG.mk i rfl hi ?_;refine aM.mk _ (anB (.head _) hi) ?_;refine xv.mk k rfl ?_;refine bg.mk _ (RL SP) ?_;refine eG.mk i rfl hi ?_;refine b2.anD [] M1 s.cells _ rfl ?_ rfl (s.mark i k).cells ?_ ?_
 ·rw[dS.cP];show 0+1+i*1+1<=66;omega
 ·show cm s.cells (0+1+i*1) [Value.int .u64 (E0 (s.m.getD i 0).toNat (lA k).toNat)]=_;rw[L8];exact anC ar hi
 exact⟨_,_,.refl,rfl,rfl⟩
section
end
structure anF(d:ao)(n:Int):Prop where
 z:d.k=0->d.t=⟨#[]⟩
 leaf:d.k<=3->n=0
 one:6<=d.k->n=1
 two:d.k=4\/d.k=5->2<=n
def abh{d:ao}{n:Int}(az:0<=d.k)(h:fits d n=true):anF d n:=by
 have ar:=(Pv h).k;have ae:d.k=0\/d.k=1\/d.k=2\/d.k=3\/d.k=4\/d.k=5\/d.k=6\/d.k=7\/d.k=8\/d.k=9:=by omega
 have dX:∀ j:Fin 10,uN j.val=lp.getD (j.val*2) 0/\sC j.val=lp.getD (j.val*2+1) 0:=by decide
 unfold fits at h;rcases ae with e | e | e | e | e | e | e | e | e | e<;>rw[e]at h<;>simp[uN,sC,lp]at h <;>
  refine⟨λq=>?_,λq=>?_,λq=>?_,λq=>?_⟩<;>first | (omega;done) | (exact h.2.2.1;done) | (exact h.2.1;done) | (simp_all;done)
def abi(nm:ByteArray):∀ (ds:List aP) (i:Nat),cu nm ds i=bif decide (cu nm ds 0<0)then -1 else cu nm ds 0+i
 |[],i=>rfl
 |d::ds,i=>by
  unfold cu;cases h:decide (d.name=nm)with
  |true=>
   have:decide ((((0:Nat):Int))<0)=false:=by decide
   simp[this]
  |false=>
   rw[b',b',abi nm ds (i+1),abi nm ds (0+1)];have af:cu nm ds 0<0\/0<=cu nm ds 0:=by omega
   rcases af with af | af;·rw[e9 af];rfl
   ·have e:decide (cu nm ds 0<0)=false:=et (by omega);rw[e,b',b'];have a7:decide (cu nm ds 0+((0+1:Nat):Int)<0)=false:=et (by omega);rw[a7,b'];omega
def abj(nm:ByteArray)(ar bK:List aP):cu nm (ar++bK) 0=bif decide (cu nm ar 0<0)then cu nm bK ar.length else cu nm ar 0:=by
 have key:∀ (ar:List aP) (i:Nat),cu nm (ar++bK) i=bif decide (cu nm ar i<0)then cu nm bK (i+ar.length)else cu nm ar i:=by
  intro ar
  induction ar with
  |nil=>intro i;simp[cu]
  |cons d ar aL=>
   intro i;rw[m4,cu,cu];cases decide (d.name=nm)with
   |true=>have:decide ((i:Int)<0)=false:=et (by omega);rw[b5,b5,this,b']| false=>rw[b',b',aL (i+1),dx];rw[show i+1+ar.length=i+(ar.length+1)from by omega]
 have:=key ar 0;rwa [c8]at this
structure Fi(ar:List aP)(a5:List (ByteArray×Int)):Prop where
 look:∀ nm,(ez nm a5).isSome=decide (0<=cu nm ar 0)
def abk(nm:ByteArray)(p:ByteArray×Int):∀ a5:List (ByteArray×Int),(ez nm (a5++[p])).isSome=((ez nm a5).isSome||decide (nm=p.1))
 |[]=>by
  show(bif decide (nm=p.1)then some p.2 else none:Option Int).isSome=_;cases decide (nm=p.1)<;>rfl
 |q::a5=>by
  rw[m4,ez,ez];cases decide (nm=q.1)with
  |true=>rfl| false=>rw[b',b',abk nm p a5]
def Fi.snoc{ar:List aP}{a5:List (ByteArray×Int)}(h:Fi ar a5)(d:aP)(v:Int):Fi (ar++[d]) (a5++[(d.name,v)]):=by
 refine⟨λnm=>?_⟩;rw[abk,h.look,abj];by_cases af:cu nm ar 0<0
 ·rw[e9 af,b5,et (by omega:¬ 0<=cu nm ar 0),uF];unfold cu;have:decide (d.name=nm)=decide (nm=d.name):=decide_eq_decide.2 ⟨Eq.symm,Eq.symm⟩;rw[this];cases decide (nm=d.name)with
  |true=>simp| false=>rw[b'];rfl
 ·rw[et af,b',e9 (by omega:0<=cu nm ar 0),My]
def nh(ds:List aP)(i:Nat):Bool:=match ds[i]? with
 |some d=>decide (cu d.name ds 0=i)| none=>true
def anG(d:aP)(bK:List aP)(i:Nat):cu d.name (d::bK) i=i:=by rw[cu,e9 rfl];rfl
def anH(bK:List aP):∀ (ar:List aP) (a5:List (ByteArray×Int)),Fi ar a5->(∀ i,i<ar.length->nh (ar++bK) i=true) ->
  match lS a5 ar.length bK with
  |none=>∃ i,i<(ar++bK).length/\nh (ar++bK) i=false/\∀ k,k<i->nh (ar++bK) k=true| some r=>Fi (ar++bK) r/\∀ i,i<(ar++bK).length->nh (ar++bK) i=true:=by
 induction bK with
 |nil=>intro ar a5 h aA;rw[ee]at *;exact⟨h,aA⟩
 |cons d bK aL=>
  intro ar a5 h aA;have fc:(ar++d::bK)[ar.length]?=some d:=by simp
  have km:nh (ar++d::bK) ar.length=!(ez d.name a5).isSome:=by
   unfold nh;rw[fc,h.look];simp only;rw[abj];by_cases af:cu d.name ar 0<0;·rw[e9 af,b5,anG];simp;omega
   ·rw[et af,b'];have aX:cu d.name ar 0<ar.length:=by
     have:∀ (ar:List aP) (i:Nat),0<=cu d.name ar i->cu d.name ar i<i+ar.length:=by
      intro ar
      induction ar with
      |nil=>intro i h;simp[cu]at h
      |cons e ar SQ=>
       intro i h;unfold cu at h |-;cases an:decide (e.name=d.name)with
       |true=>simp;omega| false=>rw[an,b']at h;rw[b'];have:=SQ (i+1) h;simp;omega
     have:=this ar 0 (by omega);omega
    have aG:decide (cu d.name ar 0=(ar.length:Int))=false:=et (by omega);have a7:decide (0<=cu d.name ar 0)=true:=e9 (by omega);rw[aG,a7];rfl
  rw[lS];cases ay:(ez d.name a5).isSome with
  |true=>rw[ay]at km;exact⟨ar.length,by simp,km,aA⟩
  |false=>
   rw[ay]at km;have:=aL (ar++[d]) (a5++[(d.name,(ar.length:Int))]) (h.snoc d _) (λi hi=>by
    rw[dV];simp at hi;rcases Nat.lt_or_eq_of_le (Nat.lt_succ_iff.1 (by omega:i<ar.length+1))with aa | aa;·exact aA i aa
    ·rw[aa];exact km)
   rw[ch,dV]at this;exact this
def anI:Fi [] []:=⟨λnm=>by simp[ez,cu]⟩
def yA(ds:List aP)(n:ao):Bool:=!decide (n.k=3)||decide (0<=cu n.t ds 0)
def abl(p:ao->Bool):∀ (ds:List aP) (i:Nat),((qE i ds).all λx=>p x.2)=ds.all λd=>d.t.ns.all p
 |[],i=>rfl| d::ds,i=>by rw[qE,GW,xr,abl p ds (i+1),Ls];rfl
def IN(ax:List Int)(g:cv):Int:=
 bif decide ((g.n:Int)=0)then 4 else bif !nL g.ds then 4 else bif oQ ax g then 40 else
 bif !(List.range g.ds.length).all (nh g.ds)then 6 else bif g.ds.all λd=>d.t.ns.all (yA g.ds)then 0 else 41
def SR(ax:List Int)(g:cv):IN ax g=dz ax g:=by
 unfold IN dz;have h:=anH g.ds [] [] anI (λi hi=>by simp at hi);simp only[fS,iz]at h;cases ak:lS [] 0 g.ds with
 |none=>
  rw[ak]at h;obtain⟨i,aa,ab,_⟩:=h;have:(List.range g.ds.length).all (nh g.ds)=false:=by rw[Mx];intro gR;rw[fy]at gR;have:=gR i (g7.2 aa);rw[ab]at this;cases this
  rw[this];rfl
 |some a5=>
  rw[ak]at h;obtain⟨aa,ab⟩:=h;have aj:(List.range g.ds.length).all (nh g.ds)=true:=by rw[fy];intro i hi;exact ab i (g7.1 hi)
  rw[aj];have aI:(g.ds.all λd=>d.t.ns.all (yA g.ds))=rP a5 g.ds:=by unfold rP;rw[abl];congr 1;funext d;congr 1;funext n;unfold zM yA;rw[aa.look]
  rw[aI];rfl
def anJ{ds:List aP}{i:Nat}(h:i<ds.length):nh ds i=decide (cu ds[i].name ds 0=i):=by unfold nh;rw[dg h]
def abm(nm:ByteArray):∀ (ds:List aP) (i:Nat),x9 nm ds i=bif decide (cu nm ds i<0)then none else some (cu nm ds i)
 |[],i=>rfl
 |d::ds,i=>by
  unfold x9 cu;rw[show decide (nm=d.name)=decide (d.name=nm) by rw[sm];simp[eq_comm]];cases decide (d.name=nm)with
  |true=>rw[b5,b5,et (by omega)];rfl| false=>rw[b',b'];exact abm nm ds (i+1)
def abn(nm:ByteArray)(ds:List aP):ez nm (bD ds)=bif decide (cu nm ds 0<0)then none else some (cu nm ds 0):=by rw[Qx,abm]
def abo{nm:ByteArray}{ds:List aP}(h:(ez nm (bD ds)).isSome=true):∃ q:Nat,cu nm ds 0=q/\q<ds.length/\((ez nm (bD ds)).getD 0).toNat=q:=by
 have kt:=abn nm ds;cases ak:decide (cu nm ds 0<0)with
 |true=>rw[ak,b5]at kt;rw[kt]at h;cases h| false=>rw[ak,b']at kt;have aI:¬ cu nm ds 0<0:=ek ak;obtain⟨q,aR⟩:=eH (by omega:0<=cu nm ds 0);have abp:=kt;rw[Qx]at abp;obtain⟨j,Kq,tw⟩:=Qy abp;refine⟨q,aR,by omega,?_⟩;rw[kt,aR];rfl
def dS.marks(s:dS)(i:Nat)(l:List Nat):dS:=l.foldl (λs k=>s.mark i k) s
def dS.abq(s:dS)(i:Nat)(l m:List Nat):s.marks i (l++m)=(s.marks i l).marks i m:=rO
def dS.Fj:∀ (l:List Nat) (s:dS) (i:Nat),(s.marks i l).m.length=s.m.length
 |[],s,i=>rfl| k::l,s,i=>by have:=dS.Fj l (s.mark i k) i;unfold dS.marks at this |-;rw[js,this];simp[dS.mark]
def SS(b1 b6 b7:Nat):Value:=.func (.func 161) #[] #[ptr b1,ptr b6,ptr b7]
def abr{I:aJ}{g:cv}(au:g.ok I)(k3:g.n<=64){t:bS}(av:t.ok I)(l2:vh t)(af:right t=true)(ea:wA (bD g.ds) t.ns=true){F:List aW}{M1:List aD}{b1 b6 b7 i:Nat}(hi:i<64)(aa:(⟨b1,.cells #[.slice g.a g.n g.c] 24 (0,0)⟩:aD)∈M1)(ef:(⟨b7,.cells #[.int .i64 i] 3 (0,0)⟩:aD)∈M1){xa:Option Addr}{xc:Nat}(ad:lV I M1 xa t.n (en (bD g.ds) F t.ns [])) : ∀ (m j:Nat),j<m->∀ (ai:j<t.ns.length) (s:dS) (ar:s.m.length=64),Spec Tryz.prog 160 [t.val,.slice xa t.n xc,.int .i64 j,SS b1 b6 b7] I (kH b6 s::M1) λv I' M'=>I'=I/\M'=kH b6 (s.marks i (gd (bD g.ds) F t.ns j).2)::M1
 |0,j,h,_,_,_=>absurd h (nT _)
 |m+1,j,abt,ai,s,ar=>by
  have aL:=abr (b6:=b6) (xc:=xc) au k3 av l2 af ea hi aa ef ad m;have hD:=av.n;have fT:=au.n;have gz:=br ai;have ak:=av.ns _ gz;have e':=ak.aN;have SU:=l2 _ gz;have jv:=D3 af ai;have SV:=abh ak.k.1 jv;have jg:=mj af j ai;have hv:=fy.1 ea _ gz;have bm:=QS (pl:=bD g.ds) (F:=F) af ai;have ij:=HL (bD g.ds) F t.ns [];simp only[fS,c8]at ij;obtain⟨aS,bH,bl⟩:=av.a0.row ao.cP (show j<t.n by omega) ai;have wg:(gd (bD g.ds) F t.ns j).2=kc (bD g.ds) t.ns[j] (t.ns[j].aw.map (gd (bD g.ds) F t.ns)):=by rw[bm];rfl
  rw[wg];clear bm wg;have AA:∀ q (h:q<t.ns[j].aw.length),∃ k:Nat,t.ns[j].aw[q]=k/\k<j:=λq h=>by have:=jg _ (br h);exact⟨t.ns[j].aw[q].toNat,by omega,by omega⟩
  generalize t.ns[j]=d at *;refine cb [] a6 Tryz.func160 rfl rfl rfl ?_;intro B az;refine bd.mk aS j bH rfl (by omega) ?_;refine aM.mk _ (bl _) ?_;refine a2.mk (λe=>?_) (λcn=>?_);·have e:d.k=3:=dw e;obtain⟨q,Ce,u',IP⟩:=abo (nm:=d.t) (ds:=g.ds) (by simpa[e]using hv);refine be.whole _ (anE au Ce (by omega) hi ar aa ef) ?_;rintro v J N -⟨bk,gf⟩;subst J;subst N;refine⟨_,_,.refl,rfl,?_⟩;rw[kc,e9 e,b5,IP];rfl
  have cn:¬ d.k=3:=ek cn;refine a2.mk (λe=>?_) (λdr=>?_)
  ·have e:d.k=4:=dw e;have CP:kc (bD g.ds) d (d.aw.map (gd (bD g.ds) F t.ns))=jQ (d.aw.map (gd (bD g.ds) F t.ns)):=by rw[kc,et cn,e9 e];rfl
   rw[CP];refine di.inv (ι:=Nat×dS) (λx=>{ bi:=[(1,.val (.slice xa t.n xc)),(3,.val (SS b1 b6 b7)),(4,.ref 4 0),(42,.val (.slice d.dB d.aN d.dp)),(43,.val (.int .i64 d.aN)),(44,.val (.int .i64 x.1))],cl:=[(4,t.cells)],cD:=I,c0:=kH b6 x.2::M1 }) (λx=>x.1<=d.aN/\x.2.m.length=64/\s.marks i (jQ (d.aw.map (gd (bD g.ds) F t.ns)))=x.2.marks i (jQ ((d.aw.drop x.1).map (gd (bD g.ds) F t.ns)))) (λx=>d.aN-x.1) ?_ ?_;·exact⟨(0,s),⟨dD _,ar,rfl⟩,.refl,oB,.cons rfl (.nil)⟩
   rintro⟨q,b3⟩⟨aR,ow,eA⟩;simp only at aR ow eA;refine a2.mk (λh=>?_) (λh=>?_)
   rotate_left
   ·have cI:d.aw.length<=q:=by have:¬ (q:Int)<(d.aN:Int):=ek h;omega
    rw[va cI]at eA;refine⟨_,_,.refl,rfl,?_⟩;rw[eA];rfl
   have aX:q<d.aN:=by have:(q:Int)<(d.aN:Int):=dw h;omega
   have cj:q<d.aw.length:=by omega
   obtain⟨gk,fu,fb⟩:=ak.a0.one aX cj;obtain⟨k,ae,IQ⟩:=AA q cj;rw[ae]at fb;have abu:k<(en (bD g.ds) F t.ns []).length:=by omega
   obtain⟨SN,SO,mG⟩:=ad.rd k abu;have kf:(d.aw.drop q).map (gd (bD g.ds) F t.ns)=gd (bD g.ds) F t.ns k::(d.aw.drop (q+1)).map (gd (bD g.ds) F t.ns):=by rw[eV cj,b0,ae]
   have m8:(gd (bD g.ds) F t.ns k).1=(en (bD g.ds) F t.ns [])[k]:=by rw[QT];simp[bA,abu]
   rw[kf,jQ,m8,dS.abq]at eA;refine bd.mk gk q fu rfl aX ?_;refine aM.mk _ (fb _) ?_;refine be.whole _ (aL k (by omega) (by omega) b3 ow) ?_;rintro v J N -⟨bk,gf⟩;subst J;subst N;refine bd.mk SN k SO rfl (by omega) ?_;refine aM.mk _ ((mG.sub λx ad=>.tail _ ad).part (k:=0) (m:=1) (by decide)) ?_;refine a2.mk (λbb=>?_) (λbb=>?_)
   ·have g9:(en (bD g.ds) F t.ns [])[k].z=false:=by simpa using bb
    rw[g9]at eA;refine⟨_,_,.refl,rfl,?_⟩;rw[eA];rfl
   ·have g9:(en (bD g.ds) F t.ns [])[k].z=true:=by simpa using bb
    rw[g9]at eA;refine bg.mk _ (cL (i:=q) (by omega)) ?_;exact⟨(q+1,b3.marks i (gd (bD g.ds) F t.ns k).2),⟨⟨aX,by rw[dS.Fj];exact ow,eA⟩,by simp only;omega⟩,.refl,oB,.cons rfl (.nil)⟩
  have dr:¬ d.k=4:=ek dr;refine a2.mk (λe=>?_) (λl0=>?_)
  ·have e:d.k=6:=dw e;have anK:=SV.one (by omega);have kV:0<d.aw.length:=by omega
   refine a2.mk (λcS=>?_) (λcS=>?_)
   ·have Bl:decide (d.hi=0)=false:=by have Bk:(!decide (d.hi=0))=true:=cS;simpa using Bk
    obtain⟨gk,fu,fb⟩:=ak.a0.one (j:=0) (by omega) kV;obtain⟨k,ae,IQ⟩:=AA 0 kV;rw[ae]at fb;have CP:kc (bD g.ds) d (d.aw.map (gd (bD g.ds) F t.ns))=(gd (bD g.ds) F t.ns k).2:=by
     have ff:d.aw=[(k:Int)]:=by
      match ad:d.aw,kV,anK,ae with
      |[a],_,_,ae=>simp only[uE]at ae;rw[ae]| _::_::_,_,h,_=>simp at h;omega
     rw[kc,et cn,et dr,Bl,ff];simp
    rw[CP];refine cV.draw a6 rfl rfl rfl ?_;refine bd.mk gk 0 fu rfl (by omega) ?_;refine aM.mk _ (fb _) ?_;refine be.whole _ (aL k (by omega) (by omega) s ar) ?_;rintro v J N -⟨bk,gf⟩;subst J;subst N;exact⟨_,_,.refl,rfl,rfl⟩
   ·have Bl:decide (d.hi=0)=true:=by have Bk:(!decide (d.hi=0))=false:=cS;simpa using Bk
    have CP:kc (bD g.ds) d (d.aw.map (gd (bD g.ds) F t.ns))=[]:=by rw[kc,et cn,et dr,e9 e,Bl];rfl
    rw[CP];exact⟨_,_,.refl,rfl,rfl⟩
  have l0:¬ d.k=6:=ek l0;have CP:kc (bD g.ds) d (d.aw.map (gd (bD g.ds) F t.ns))=(d.aw.map (gd (bD g.ds) F t.ns)).flatMap (·.2):=by rw[kc,et cn,et dr,et l0];rfl
  rw[CP];refine di.inv (ι:=Nat×dS) (λx=>{ bi:=[(1,.val (.slice xa t.n xc)),(3,.val (SS b1 b6 b7)),(4,.ref 4 0),(21,.val (.slice d.dB d.aN d.dp)),(22,.val (.int .i64 d.aN)),(23,.val (.int .i64 x.1))],cl:=[(4,t.cells)],cD:=I,c0:=kH b6 x.2::M1 }) (λx=>x.1<=d.aN/\x.2.m.length=64/\s.marks i ((d.aw.map (gd (bD g.ds) F t.ns)).flatMap (·.2))=x.2.marks i (((d.aw.drop x.1).map (gd (bD g.ds) F t.ns)).flatMap (·.2))) (λx=>d.aN-x.1) ?_ ?_;·exact⟨(0,s),⟨dD _,ar,rfl⟩,.refl,oB,.cons rfl (.nil)⟩
  rintro⟨q,b3⟩⟨aR,ow,eA⟩;simp only at aR ow eA;refine a2.mk (λh=>?_) (λh=>?_)
  rotate_left
  ·have cI:d.aw.length<=q:=by have:¬ (q:Int)<(d.aN:Int):=ek h;omega
   rw[va cI]at eA;refine⟨_,_,.refl,rfl,?_⟩;rw[eA];rfl
  have aX:q<d.aN:=by have:(q:Int)<(d.aN:Int):=dw h;omega
  have cj:q<d.aw.length:=by omega
  obtain⟨gk,fu,fb⟩:=ak.a0.one aX cj;obtain⟨k,ae,IQ⟩:=AA q cj;rw[ae]at fb;rw[eV cj,b0,ae,j6,dS.abq]at eA;refine bd.mk gk q fu rfl aX ?_;refine aM.mk _ (fb _) ?_;refine be.whole _ (aL k (by omega) (by omega) b3 ow) ?_;rintro v J N -⟨bk,gf⟩;subst J;subst N;refine bg.mk _ (cL (i:=q) (by omega)) ?_;exact⟨(q+1,b3.marks i (gd (bD g.ds) F t.ns k).2),⟨⟨aX,by rw[dS.Fj];exact ow,eA⟩,by simp only;omega⟩,.refl,oB,.cons rfl (.nil)⟩
def eE.yB(h:eE I M w)(aC:M.Perm N):eE I N w:=
 ⟨h.i,λx ad=>h.m x (aC.mem_iff.2 ad),λx ad=>h.d x (aC.mem_iff.2 ad),((aC.map (·.num)).nodup_iff).1 h.cd⟩
def Kept.yB{yC:List aD}(h:Kept I M w I' M' w')(aC:M.Perm N)(El:M'.Perm yC):Kept I N w I' yC w':=
 ⟨h.le,h.uy,λx ad=>by
  rcases h.vM x (El.mem_iff.2 ad)with⟨y,aE,e⟩ | aa;·exact .inl ⟨y,aC.mem_iff.1 aE,e⟩
  ·exact .inr aa,λb ag aE=>h.dH b ag λy tl=>aE y (aC.mem_iff.1 tl),h.out,h.sz⟩
def Spec.yB{p q:Value->aJ->List aD->Prop}(aC:M.Perm N)(aR:∀ v I' M',p v I' M'->∃ yC,M'.Perm yC/\q v I' yC)(h:Spec P f args I M p):Spec P f args I N q:=by
 rcases h with⟨aa,ab⟩ | ab
 ·refine .inl ⟨aa,λw hw=>(ab w (hw.yB aC.symm)).mono ?_⟩;rintro e w'⟨v,I',M',aj,aI,bB,b4⟩;obtain⟨yC,ef,fl⟩:=aR _ _ _ aI;exact⟨v,I',yC,aj,fl,bB.yB ef,b4.yB aC ef⟩
 ·refine .inr λw hw=>?_;obtain⟨v,w',I',M',aj,aI,bB,b4⟩:=ab w (hw.yB aC.symm);obtain⟨yC,ef,fl⟩:=aR _ _ _ aI;exact⟨v,w',I',yC,aj,fl,bB.yB ef,b4.yB aC ef⟩
def dS.loop(s:dS)(i:Nat):dS:=⟨s.n,s.m,s.w ||| lA i⟩
def qW(pl:List (ByteArray×Int))(F:List aW)(s:dS)(i:Nat)(d:aP):dS:=
 bif oe d.t.ns (en pl F d.t.ns [])then(s.marks i (gd pl F d.t.ns d.t.bn).2).loop i else s.marks i (gd pl F d.t.ns d.t.bn).2
def kI(n:Nat):dS:=⟨n,List.replicate 64 0,0⟩
def jV(pl:List (ByteArray×Int))(F:List aW):Nat->List aP->dS->dS
 |_,[],s=>s| i,d::ds,s=>jV pl F (i+1) ds (qW pl F s i d)
def qX(ds:List aP)(F:List aW):dS:=jV (bD ds) F 0 ds (kI ds.length)
def abv(pl:List (ByteArray×Int))(F:List aW)(s:dS)(i:Nat)(d:aP):(qW pl F s i d).m.length=s.m.length:=by
 unfold qW;cases oe d.t.ns (en pl F d.t.ns [])with
 |true=>exact dS.Fj _ s i| false=>exact dS.Fj _ s i
def abw(pl:List (ByteArray×Int))(F:List aW):∀ (l:List aP) (i:Nat) (s:dS) (d:aP),jV pl F i (l++[d]) s=qW pl F (jV pl F i l s) (i+l.length) d
 |[],i,s,d=>rfl| a::l,i,s,d=>by rw[m4,jV,jV,abw pl F l];congr 1;simp;omega
def SW(pl:List (ByteArray×Int))(F:List aW):∀ (l:List aP) (i:Nat) (s:dS),(jV pl F i l s).m.length=s.m.length
 |[],i,s=>rfl| d::l,i,s=>by rw[jV,SW pl F l,abv]
def abx(a':kH b s∈M):cF I M ((⟨b,0,none⟩:Addr).add 65) 1 [o2 s.w]:=by rw[eP _ rfl];refine⟨rfl,_,_,_,.inr ⟨_,a',rfl,rfl⟩,?_,rfl⟩;show(s.cells.drop (0+65)).take 1=_;rw[dS.cells,c8,HR,BN (tY _)];rfl
def anL(s:dS)(i:Nat):cm s.cells (0+65) [o2 (s.w ||| lA i)]=(s.loop i).cells:=by unfold dS.cells dS.loop cm;simp only[c8,dx,fS];rw[qh,qu (tY _),HR,va (by simp[tY])];simp
def ME(a':kH b s∈M):cF I M (⟨b,0,none⟩:Addr) 66 s.cells:=
 ⟨rfl,_,_,_,.inr ⟨_,a',rfl,rfl⟩,by simp only[vW];exact fA (show s.cells.length<=66 by rw[dS.cP];exact ca _),dS.cP s⟩
def anM(bu:ga I ax)(au:g.ok I)(l2:∀ d∈g.ds,vh d.t)(k3:dz ax g=0->g.n<=64):Spec Tryz.prog 104 [g.val] I [] λv I' M'=>(∀ b o,I b=some o->I' b=some o)/\M'=[] /\
  ((dz ax g≠0/\v=.tuple #[(kI 0).val,.int .i64 (dz ax g)])\/(dz ax g=0/\∃ F,jO g.ds F/\v=.tuple #[(qX g.ds F).val,.int .i64 0])):=by
 refine cb [1,2,6,7] a6 Tryz.func104 rfl rfl rfl ?_;intro B az;have fT:=au.n;have jx:=au.a0.cap;refine bX.mk λb1 ho QH=>?_;refine bX.mk λbW gY KY=>?_;refine aM.mk [.slice g.a g.n g.c] (c4 (cs:=[.slice g.a g.n g.c]) (k:=0) (n:=1) (.tail _ (.head _)) (by simp)) ?_;refine be.mk [] [kH bW (kI 0),⟨b1,.cells #[.slice g.a g.n g.c] 24 (0,0)⟩] _ (.refl _) (aj2 bu au) ?_;rintro v I1 N -⟨cH,⟨hm,rfl,rfl⟩|⟨hm,tV,F,rfl,rfl,bG⟩⟩
 ·refine a2.mk (λ_=>?_) (λh=>absurd h (by simp[hm]));refine b2.rZ [] _ _ _ rfl rfl rfl rfl (kI 0).cells rfl ?_;refine aM.mk _ (ME (.head _)) ?_;exact⟨_,_,.sub (fO _) .refl,cH,rfl,.inl ⟨hm,rfl⟩⟩
 refine a2.mk (λh=>absurd h (by simp)) (λ_=>?_);have a':=Lv fT hm;have aby:F.length=g.n:=by rw[bG.len,fT]
 have anN:=k3 hm;refine aM.mk [.slice g.a g.n g.c] (c4 (cs:=[.slice g.a g.n g.c]) (k:=0) (n:=1) (.tail _ (.tail _ (.head _))) (by simp)) ?_;refine bX.mk λb6 B0 PG=>?_;refine b2.rZ [] _ _ _ rfl rfl rfl rfl (kI g.n).cells rfl ?_;refine aM.mk [.slice g.a g.n g.c] (c4 (cs:=[.slice g.a g.n g.c]) (k:=0) (n:=1) (.tail _ (.tail _ (.tail _ (.head _)))) (by simp)) ?_;refine di.inv (ι:=Nat×aJ) (λx=>{ bi:=[(1,.val (ptr b1)),(2,.val (ptr bW)),(4,.val (.slice (some ⟨tV,0,none⟩) g.n g.n)),(6,.val (ptr b6)),(25,.val (.slice g.a g.n g.c)),(26,.val (.int .i64 g.n)),(27,.val (.int .i64 x.1))],cl:=[],cD:=x.2,c0:=[kH b6 (jV (bD g.ds) F 0 (g.ds.take x.1) (kI g.n)),fM tV F,kH bW (kI 0),⟨b1,.cells #[.slice g.a g.n g.c] 24 (0,0)⟩] }) (λx=>x.1<=g.n/\∀ b o,I b=some o->x.2 b=some o) (λx=>g.n-x.1) ?_ ?_
 ·exact⟨(0,I1),⟨dD _,cH⟩,.refl,ri,.nil⟩
 rintro⟨i,J⟩⟨hi,bk⟩;simp only at hi bk;refine a2.mk (λh=>?_) (λh=>?_)
 rotate_left
 ·have cI:i=g.n:=by have:¬ (i:Int)<(g.n:Int):=ek h;omega
  refine aM.mk _ (ME (.head _)) ?_;refine b2.rZ [kH b6 (jV (bD g.ds) F 0 (g.ds.take i) (kI g.n)),fM tV F] _ _ _ rfl rfl rfl rfl (jV (bD g.ds) F 0 (g.ds.take i) (kI g.n)).cells ?_ ?_;·rfl
  refine aM.mk _ (ME (.tail _ (.tail _ (.head _)))) ?_;refine⟨_,_,.sub (fO _) .refl,bk,rfl,.inr ⟨hm,F,bG,?_⟩⟩;rw[cI,fA (l:=g.ds) (by omega),qX,fT];rfl
 have aX:i<g.n:=by have:(i:Int)<(g.n:Int):=dw h;omega
 have cj:i<g.ds.length:=by omega
 have MF:=au.mono bk;have anO:=bu.mono bk;obtain⟨aS,bH,bl⟩:=MF.a0.row aP.cP aX cj;have gz:=br cj;have ak:=MF.ds _ gz;have af:=a'.right _ gz;have ea:=a'.named _ gz;have SU:=l2 _ gz;have iS:jV (bD g.ds) F 0 (g.ds.take (i+1)) (kI g.n)=qW (bD g.ds) F (jV (bD g.ds) F 0 (g.ds.take i) (kI g.n)) i g.ds[i]:=by rw[gg cj,abw,PM (by omega),c8]
 have e5:(jV (bD g.ds) F 0 (g.ds.take i) (kI g.n)).m.length=64:=by rw[SW];rfl
 generalize g.ds[i]=d at bl ak af ea SU iS;refine bd.mk aS i bH rfl aX ?_;refine aM.mk _ (bl _) ?_;refine bX.mk λb7 yd Lx=>?_;refine b2.rZ [] _ _ _ rfl rfl rfl rfl [.int .i64 i] rfl ?_;refine aM.mk [.slice g.a g.n g.c] (c4 (cs:=[.slice g.a g.n g.c]) (k:=0) (n:=1) (.tail _ (.tail _ (.tail _ (.tail _ (.head _))))) (by simp)) ?_;generalize avG:jV (bD g.ds) F 0 (g.ds.take i) (kI g.n)=s at e5 iS |-;have fc:∀ {M:List aD},fM tV F∈M->lV J M (some ⟨tV,0,none⟩) g.n F:=λyq=>by have:=Lu (I:=J) yq;rwa [aby]at this
 have MG:z0 g F d.t=some (en (bD g.ds) F d.t.ns []):=by rw[z0,af,ea,e9 aby];rfl
 refine be.whole _ (ajX (lc:=g.n) anO MF ak.t (fc (.tail _ (.tail _ (.head _))))) ?_;rintro v dh dq -⟨dY,⟨aB,-,-⟩|⟨r,cf,aB,rfl,rfl⟩⟩
 ·rw[MG]at aB;cases aB
 rw[MG]at aB;obtain rfl:=fh aB;refine ct.mk (λh=>?_) (λh=>?_)
 rotate_left
 ·cases h
 refine a2.mk (λh=>absurd h (by simp)) (λ_=>?_);have tA:=qw af;have Am:=abr (b1:=b1) (b6:=b6) (b7:=b7) (i:=i) (xa:=some ⟨cf,0,none⟩) (xc:=d.t.n) (F:=F) (MF.mono dY) anN (ak.t.mono dY) SU af ea (by omega) (M1:=[fM cf (en (bD g.ds) F d.t.ns []),⟨b7,.cells #[.int .i64 i] 3 (0,0)⟩,fM tV F,kH bW (kI 0),⟨b1,.cells #[.slice g.a g.n g.c] 24 (0,0)⟩]) (.tail _ (.tail _ (.tail _ (.tail _ (.head _))))) (.tail _ (.head _)) (by
  have:=Lu (I:=dh) (M:=[fM cf (en (bD g.ds) F d.t.ns []),⟨b7,.cells #[.int .i64 i] 3 (0,0)⟩,fM tV F,kH bW (kI 0),⟨b1,.cells #[.slice g.a g.n g.c] 24 (0,0)⟩]) (b:=cf) (l:=en (bD g.ds) F d.t.ns []) (.head _);rw[HL,ak.t.n]at this;simpa using this) d.t.ns.length d.t.bn.toNat (by omega) (by omega) s e5
 rw[zu tA.1]at Am;have anP:=Spec.yB (q:=λv I' M'=>I'=dh/\M'=kH b6 (s.marks i (gd (bD g.ds) F d.t.ns d.t.bn.toNat).2)::[fM cf (en (bD g.ds) F d.t.ns []),⟨b7,.cells #[.int .i64 i] 3 (0,0)⟩,fM tV F,kH bW (kI 0),⟨b1,.cells #[.slice g.a g.n g.c] 24 (0,0)⟩]) (mw (a:=kH b6 s) (l₁:=[fM cf (en (bD g.ds) F d.t.ns []),⟨b7,.cells #[.int .i64 i] 3 (0,0)⟩]) (l₂:=[fM tV F,kH bW (kI 0),⟨b1,.cells #[.slice g.a g.n g.c] 24 (0,0)⟩])).symm (λv I' M' h=>⟨M',.refl _,h⟩) Am;refine be.whole _ anP ?_;rintro v pW N -⟨lF,gf⟩;subst pW;subst N;generalize fq:s.marks i (gd (bD g.ds) F d.t.ns d.t.bn.toNat).2=s1 at *;have avH:s1.m.length=64:=by rw[<-fq,dS.Fj,e5]
 refine be.whole _ (anA (xs:=en (bD g.ds) F d.t.ns []) (ak.t.mono dY) af ?_) ?_
 ·have:=Lu (I:=dh) (M:=kH b6 s1::[fM cf (en (bD g.ds) F d.t.ns []),⟨b7,.cells #[.int .i64 i] 3 (0,0)⟩,fM tV F,kH bW (kI 0),⟨b1,.cells #[.slice g.a g.n g.c] 24 (0,0)⟩]) (b:=cf) (l:=en (bD g.ds) F d.t.ns []) (.tail _ (.head _));rw[HL,ak.t.n]at this;simpa using this
 rintro v pW N -⟨ah,lF,gf⟩;subst pW;subst N;subst v;have er:(kH b6 (qW (bD g.ds) F s i d))=(kH b6 (bif oe d.t.ns (en (bD g.ds) F d.t.ns [])then s1.loop i else s1)):=by rw[qW,<-fq];rfl
 refine a2.mk (λhe=>?_) (λhe=>?_)
 rotate_left
 ·have rm:oe d.t.ns (en (bD g.ds) F d.t.ns [])=false:=he;refine bg.mk _ (cL (i:=i) (by omega)) ?_;refine⟨(i+1,dh),⟨⟨aX,λb o h=>dY _ _ (bk _ _ h)⟩,by simp only;omega⟩,.sub (.cons_cons _ (.cons _ (.cons _ (.refl _)))) (.n' ?_),ri,.nil⟩;simp only;rw[iS,er,rm];rfl
 have rm:oe d.t.ns (en (bD g.ds) F d.t.ns [])=true:=he;refine cV.draw a6 rfl rfl rfl ?_;refine aM.mk _ (abx (.head _)) ?_;refine aM.mk [.int .i64 i] (c4 (cs:=[.int .i64 i]) (k:=0) (n:=1) (.tail _ (.tail _ (.head _))) (by simp)) ?_;refine xv.mk i rfl ?_;refine bg.mk _ (RL (by omega)) ?_;refine b2.iC [] _ s1.cells _ rfl ?_ rfl (s1.loop i).cells ?_ ?_
 ·rw[dS.cP];rfl
 ·show cm s1.cells (0+65) [Value.int .u64 (E0 s1.w.toNat (lA i).toNat)]=_;rw[L8];exact anL s1 i
 refine bg.mk _ (cL (i:=i) (by omega)) ?_;refine⟨(i+1,dh),⟨⟨aX,λb o h=>dY _ _ (bk _ _ h)⟩,by simp only;omega⟩,.sub (.cons_cons _ (.cons _ (.cons _ (.refl _)))) (.n' ?_),ri,.nil⟩;simp only;rw[iS,er,rm];rfl
def Fk(l:List Nat):List Value:=l.map λn:Nat=>Value.int .i64 n
def AB(s:dS):List Nat:=bitsOf s.w 64
open Classical in
noncomputable def wZ(s:dS):List Nat:=(List.range 64).filter λi=>decide (qO s.m i i)
def anQ{b:dt}(h:∀ i,i<64->(b.getLsbD i=true ↔ qO s.m i i)):bitsOf b 64=wZ s:=by
 unfold bitsOf wZ;apply Gv;intro i hi;have:=h i (by simpa using hi);by_cases an:qO s.m i i
 ·simp[an,this.2 an]
 ·have:b.getLsbD i=false:=by
   cases ag:b.getLsbD i with
   |false=>rfl| true=>exact absurd (this.1 ag) an
  simp[an,this]
def abz(pl:List (ByteArray×Int))(F:List aW):∀ (l:List aP) (i:Nat) (s:dS),(jV pl F i l s).n=s.n
 |[],i,s=>rfl
 |d::l,i,s=>by
  rw[jV,abz pl F l];have hm:∀ (q:List Nat) (s:dS),(s.marks i q).n=s.n:=λq=>by
   induction q with
   |nil=>exact λs=>rfl
   |cons k q aL=>exact λs=>aL (s.mark i k)
  unfold qW;cases oe d.t.ns (en pl F d.t.ns [])with
  |true=>exact hm _ s| false=>exact hm _ s
def anR(ds:List aP)(F:List aW):(qX ds F).n=ds.length:=abz _ _ _ _ _
def anS(ds:List aP)(F:List aW):(qX ds F).m.length=64:=by rw[qX,SW];rfl
noncomputable def IR(e:Int)(s:dS):Int×Int:=
 if e≠0 then(0,e)else if 0<(wZ s).length then(((wZ s).headD 0:Nat),42)else if 0<(AB s).length then(((AB s).headD 0:Nat),43)else(0,0)
def aY.pos(h:os.ok 1 (Fk l)):l.length=os.n:=by have:=h.len;simpa[Fk]using this
def abA(h:os.ok 1 (Fk l))(ay:0<l.length)(a':os.aq e++M0=M):∃ aS,os.a.map (λg=>(⟨g,0,none⟩:Addr))=some aS/\cF I M (aS.add (0*1)) 1 [.int .i64 (l.headD 0:Nat)]:=by
 have aC:=aY.pos h;cases a4:os.a with
 |none=>have:=(h.nil a4).1;omega
 |some b=>
  obtain⟨aa,ab,aj,aI⟩:=h.cap b a4;refine⟨⟨b,0,none⟩,rfl,?_⟩;subst a';cases l with
  |nil=>simp at ay
  |cons a l=>
   cases an:os.aT with
   |nil=>rw[an]at aI;simp[Fk]at aI
   |cons x xs=>
    rw[an]at aI;have aB:os.n*1=(os.n-1)+1:=by omega
    rw[aB,qh]at aI;have ad:x=.int .i64 a:=(List.cons.inj aI).1;refine⟨rfl,_,_,_,.inr ⟨⟨b,.cells os.aT.toArray e (0,0)⟩,?_,rfl,rfl⟩,?_,rfl⟩;·unfold aY.aq;rw[a4];exact .head _
    ·rw[an,ad];rfl
def anT(bu:ga I ax)(au:g.ok I)(l2:∀ d∈g.ds,vh d.t)(k3:dz ax g=0->g.n<=64):Spec Tryz.prog 57 [g.val] I [] λv I' M'=>(∀ b o,I b=some o->I' b=some o)/\M'=[] /\
  ∃ r:Int×Int,v=.tuple #[.int .i64 r.1,.int .i64 r.2]/\((dz ax g≠0/\r=(0,dz ax g))\/(dz ax g=0/\∃ F,jO g.ds F/\r=IR 0 (qX g.ds F))):=by
 refine cb [4] a6 Tryz.func57 rfl rfl rfl ?_;intro B az;have fT:=au.n;refine be.mk [] [] _ (.refl _) (anM bu au l2 k3) ?_;rintro v I1 N -⟨cH,rfl,⟨hm,rfl⟩|⟨hm,F,bG,rfl⟩⟩
 ·refine bX.mk λeu Ee KZ=>?_;refine b2.rZ [] _ _ _ rfl rfl rfl rfl (kI 0).cells rfl ?_;refine a2.mk (λh=>?_) (λh=>absurd h (by simp[hm]));exact⟨_,_,.sub (fO _) .refl,cH,rfl,(0,dz ax g),rfl,.inl ⟨hm,rfl⟩⟩
 refine bX.mk λeu Ee KZ=>?_;refine b2.rZ [] _ _ _ rfl rfl rfl rfl (qX g.ds F).cells rfl ?_;have iS:=anR g.ds F;have e5:=anS g.ds F;have aB:=k3 hm;generalize ar:qX g.ds F=s at iS e5;refine a2.mk (λh=>absurd h (by simp)) (λ_=>?_);refine aM.mk _ (ME (.head _)) ?_;refine be.whole _ (ald s ⟨e5,by omega⟩) ?_;rintro v J N -⟨rfl,rfl,b,rfl,ag⟩;refine be.whole _ (ZN b) ?_;rintro v J N -⟨rfl,os,bT,rfl,rfl⟩;have bT:os.ok 1 (Fk (wZ s)):=by rw[<-anQ ag];exact bT
 have aC:=aY.pos bT;refine a2.mk (λh=>?_) (λh=>?_)
 ·have bc:0<(wZ s).length:=by have:(0:Int)<(os.n:Int):=dw h;omega
  obtain⟨aS,bH,bl⟩:=abA (I:=J) bT bc rfl;refine bd.mk aS 0 bH rfl (by omega) ?_;refine aM.mk _ bl ?_;exact⟨_,_,.sub (fO _) .refl,cH,rfl,(((wZ s).headD 0:Nat),42),rfl,.inr ⟨hm,F,bG,by rw[ar,IR,bR (by simp),bN bc]⟩⟩
 have bc:¬ 0<(wZ s).length:=by have:¬ (0:Int)<(os.n:Int):=ek h;omega
 refine aM.mk _ (abx (qg _ (.head _))) ?_;refine be.whole _ (ZN s.w) ?_;rintro v dh N -⟨rfl,SX,MH,rfl,rfl⟩;have MH:SX.ok 1 (Fk (AB s)):=MH;have mC:=aY.pos MH;refine a2.mk (λh=>?_) (λh=>?_)
 ·have ab:0<(AB s).length:=by have:(0:Int)<(SX.n:Int):=dw h;omega
  obtain⟨aS,bH,bl⟩:=abA (I:=dh) MH ab rfl;refine bd.mk aS 0 bH rfl (by omega) ?_;refine aM.mk _ bl ?_;exact⟨_,_,.sub (fO _) .refl,cH,rfl,(((AB s).headD 0:Nat),43),rfl,.inr ⟨hm,F,bG,by rw[ar,IR,bR (by simp),bR bc,bN ab]⟩⟩
 have ab:¬ 0<(AB s).length:=by have:¬ (0:Int)<(SX.n:Int):=ek h;omega
 exact⟨_,_,.sub (fO _) .refl,cH,rfl,(0,0),rfl,.inr ⟨hm,F,bG,by rw[ar,IR,bR (by simp),bR bc,bR ab]⟩⟩
def MI(l:List Nat)(w:dt):dt:=l.foldl (λw k=>w ||| lA k) w
def anU(l:List Nat)(w:dt){i:Nat}(hi:i<64):(MI l w).getLsbD i=(w.getLsbD i||l.contains i):=aky l w hi
def pU(m:List dt)(i:Nat):m.set i (m.getD i 0)=m:=by
 apply zw;intro j;rw[ih];by_cases h:i=j
 ·subst h;by_cases ay:i<m.length
  ·simp[ay,bA]
  ·simp[ay]
 ·simp[h]
def abB(i:Nat):∀ (l:List Nat) (s:dS),i<s.m.length->(s.marks i l).m=s.m.set i (MI l (s.m.getD i 0))
 |[],s,h=>(pU s.m i).symm| k::l,s,h=>by have aL:=abB i l (s.mark i k) (by simpa[dS.mark]using h);show((s.mark i k).marks i l).m=_;rw[aL,dS.mark];simp only;rw[KA,RM (by simpa using h)];rfl
def SY(i:Nat):∀ (l:List Nat) (s:dS),(s.marks i l).w=s.w
 |[],s=>rfl| k::l,s=>SY i l (s.mark i k)
def abC(pl:List (ByteArray×Int))(F:List aW)(s:dS)(i:Nat)(d:aP)(h:i<s.m.length):(qW pl F s i d).m=s.m.set i (MI (gd pl F d.t.ns d.t.bn).2 (s.m.getD i 0)):=by
 unfold qW;rw[<-abB i _ s h];cases oe d.t.ns (en pl F d.t.ns [])<;>rfl
def abD(pl:List (ByteArray×Int))(F:List aW)(s:dS)(i:Nat)(d:aP):(qW pl F s i d).w=bif oe d.t.ns (en pl F d.t.ns [])then s.w ||| lA i else s.w:=by
 unfold qW;cases oe d.t.ns (en pl F d.t.ns [])
 ·exact SY i _ s
 ·show(s.marks i _).w ||| lA i=_
  rw[SY];rfl
def SZ(pl:List (ByteArray×Int))(F:List aW):∀ (l:List aP) (i:Nat) (s:dS),s.m.length=64->i+l.length<=64 -> (∀ j,j<i\/i+l.length<=j->(jV pl F i l s).m.getD j 0=s.m.getD j 0) /\ (∀ q (h:q<l.length),(jV pl F i l s).m.getD (i+q) 0=MI (gd pl F l[q].t.ns l[q].t.bn).2 (s.m.getD (i+q) 0)) /\ (∀ j,j<64->j<i\/i+l.length<=j->(jV pl F i l s).w.getLsbD j=s.w.getLsbD j) /\ (∀ q (h:q<l.length),(jV pl F i l s).w.getLsbD (i+q)=(s.w.getLsbD (i+q)||oe l[q].t.ns (en pl F l[q].t.ns [])))
 |[],i,s,_,_=>⟨λ_ _=>rfl,λ_ h=>absurd h (by simp),λ_ _ _=>rfl,λ_ h=>absurd h (by simp)⟩
 |d::l,i,s,ar,ay=>by
  rw[dx]at ay;obtain⟨aa,ab,aj,aI⟩:=SZ pl F l (i+1) (qW pl F s i d) (by rw[abv,ar]) (by omega);have hm:∀ j,j≠i->(qW pl F s i d).m.getD j 0=s.m.getD j 0:=λj ai=>by rw[abC pl F s i d (by omega)];simp[bA,ih,pj ai]
  have hw:∀ j,j<64->j≠i->(qW pl F s i d).w.getLsbD j=s.w.getLsbD j:=λj ai bt=>by
   rw[abD];cases oe d.t.ns (en pl F d.t.ns []);·rfl
   ·rw[b5,Cg,LD ai];simp[bt]
  refine⟨λj ai=>?_,λq h=>?_,λj ai tw=>?_,λq h=>?_⟩;·rw[dx]at ai;rw[jV,aa j (by omega),hm j (by omega)]
  ·cases q with
   |zero=>rw[jV,aa _ (by omega),abC pl F s i d (by omega)];rw[qb,RM (by omega)];rfl| succ q=>have:=ab q (by simpa using h);rw[show i+1+q=i+(q+1) by omega]at this;rw[jV,this,hm _ (by omega)];rfl
  ·rw[dx]at tw;rw[jV,aj j ai (by omega),hw j ai (by omega)]
  ·cases q with
   |zero=>
    rw[jV,aj _ (by omega) (by omega),abD,qb,uE];cases he:oe d.t.ns (en pl F d.t.ns []);·simp
    ·rw[b5,Cg,LD (by omega)];simp
   |succ q=>
    have aR:q<l.length:=by simpa using h
    have:=aI q aR;rw[show i+1+q=i+(q+1) by omega]at this;rw[jV,this,hw _ (by omega) (by omega)];rfl
def jE(ds:List aP)(F:List aW)(i:Nat):List Nat:=match ds[i]? with
 |some d=>(gd (bD ds) F d.t.ns d.t.bn).2| none=>[]
def IS(ds:List aP)(F:List aW)(i:Nat):Bool:=match ds[i]? with
 |some d=>oe d.t.ns (en (bD ds) F d.t.ns [])| none=>false
def MJ{ds:List aP}(aB:ds.length<=64){i k:Nat}(ae:k<64):((qX ds F).m.getD i 0).getLsbD k=(jE ds F i).contains k:=by
 obtain⟨aa,ab,-,-⟩:=SZ (bD ds) F ds 0 (kI ds.length) (by rfl) (by omega);have az:∀ j,(kI ds.length).m.getD j 0=0#64:=λj=>by
  simp only[kI,bA,QB];by_cases h:j<64<;>simp[h]
 unfold jE qX;by_cases h:i<ds.length
 ·have:=ab i h;rw[c8]at this;rw[this,az,anU _ _ ae,dg h];simp
 ·rw[aa i (by omega),az,rk (by omega)];simp
def abE{ds:List aP}(aB:ds.length<=64){i:Nat}(hi:i<64):(qX ds F).w.getLsbD i=IS ds F i:=by
 obtain⟨-,-,aa,ab⟩:=SZ (bD ds) F ds 0 (kI ds.length) (by rfl) (by omega);unfold IS qX;by_cases h:i<ds.length
 ·have:=ab i h;rw[c8]at this;rw[this,dg h];simp[kI]
 ·rw[aa i hi (by omega),rk (by omega)];simp[kI]
section
end
section
end
structure anV(t:bS):Prop where
 n:t.n<2500
 ns:∀ cd∈t.ns,Qe cd
structure hO(L:List bS)(n0:Nat)(x:Nat×Nat):Prop where
 i:x.2<=L.length
 n:x.1<=6000
 ge:n0<=x.1
 small:x.1<2500->x.2<=x.1/\∀ j (h:j<L.length),j<x.2->anV L[j]
def MK{ds:List aP}{f:aP->aW}{i:Nat}(h:i<ds.length):(ds.map f).getD i bZ=f ds[i]:=by simp[bA,h]
def oY.all{ds:List aP}{l:List aW}(h:oY ds l):oY ds (ds.map (iq (bD ds) l))/\eC l (ds.map (iq (bD ds) l)):=by
 have bm:eC l (ds.map (iq (bD ds) l)):=eC.of (by simp[h.len]) λi hi=>by rw[MK (by rw[<-h.len];exact hi)];exact h.up i _
 refine⟨⟨by simp,λi hi=>?_,λm hm an=>eC.of (by simp[hm]) λi hi=>?_⟩,bm⟩
 ·rw[MK hi];exact HO bm _
 ·have cZ:i<ds.length:=by simpa using hi
  rw[MK cZ];exact(HO (h.least m hm an) _).trans (an i cZ)
def AD(b:Bool)(xs:List (aW×List Nat)):List Nat:=bif b then jQ xs else xs.flatMap (·.2)
def anW(b:Bool):AD b []=[]:=by cases b<;>rfl
def anX(b:Bool)(x:aW×List Nat)(xs:List (aW×List Nat)):AD b (x::xs)=x.2++bif b && !x.1.z then []else AD b xs:=by
 cases b with
 |true=>
  cases bb:x.1.z<;>simp[AD,jQ,bb]
 |false=>simp[AD]
def anY{pl:List (ByteArray×Int)}{d:ao}{xs:List (aW×List Nat)}(aj:¬ d.k=3)(b4:¬ (d.k=6/\d.hi=0)):kc pl d xs=AD (decide (d.k=4)) xs:=by
 unfold kc AD;rw[et aj,b'];cases aI:decide (d.k=4)with
 |true=>rfl
 |false=>
  rw[b',b'];by_cases a:d.k=6;·have b:¬ d.hi=0:=λe=>b4 ⟨a,e⟩;rw[e9 a,et b];rfl
  ·rw[et a];rfl
def yD(pl:List (ByteArray×Int))(F:List aW)(d:ao)(xs:List ((aW×List Nat)×Bool)):Bool:=xs.any λx=>(decide (d.k=6)&&(decide (d.hi=-1)&&x.1.1.z))||x.2
def lG(pl:List (ByteArray×Int))(F:List aW)(d:ao)(xs:List ((aW×List Nat)×Bool)):(aW×List Nat)×Bool:=(qN pl F d (xs.map (·.1)),yD pl F d xs)
def o7(pl:List (ByteArray×Int))(F:List aW)(ns:List ao)(j:Int):(aW×List Nat)×Bool:=ml ((bZ,[]),false) (λd g=>lG pl F d (d.aw.map g)) ns j
def abF{pl:List (ByteArray×Int)}(af:right t=true){j:Nat}(ai:j<t.ns.length):o7 pl F t.ns j=lG pl F t.ns[j] (t.ns[j].aw.map (o7 pl F t.ns)):=
 D2 (λd g dK h=>by rw[fR h]) af ai
def ML{pl:List (ByteArray×Int)}{F:List aW}{t:bS}(af:right t=true):∀ (m j:Nat),j<m->j<t.ns.length->(o7 pl F t.ns j).1=gd pl F t.ns j
 |0,j,h,_=>absurd h (nT _)
 |m+1,j,hm,ai=>by
  rw[abF af ai,QS af ai];have:(t.ns[j].aw.map (o7 pl F t.ns)).map (·.1)=t.ns[j].aw.map (gd pl F t.ns):=by rw[gA];refine fR λk ae=>?_;obtain⟨aa,ab⟩:=mj af j ai k ae;obtain⟨q,rfl⟩:=eH aa;exact ML af m q (by omega) (by omega)
  show qN pl F t.ns[j] _=_;rw[this]
def anZ(pl:List (ByteArray×Int))(F:List aW)(ns:List ao)(j:Int):o7 pl F (ns.map ao.a1) j=o7 pl F ns j:=by unfold o7 ml;rw[HX (f:=λd g=>lG pl F d (d.aw.map g)) (g:=λd g=>lG pl F d (d.aw.map g)) (λd q=>rfl)]
def pX(ds:List aP)(F:List aW)(i:Nat):List Nat:=(List.range ds.length).filter λk=>(jE ds F i).contains k
def pY(ds:List aP)(F:List aW)(i:Nat):Bool:=match ds[i]? with
 |some d=>(o7 (bD ds) F d.t.ns d.t.bn).2| none=>false
def pZ(ds:List aP)(F:List aW):List Nat:=(List.range ds.length).filter (pY ds F)
inductive kg(A:Nat->List Nat):Nat->Nat->Prop
 |one{i k}(h:k∈A i):kg A i k| step {i j k} (h:j∈A i) (t:kg A j k):kg A i k
def kg.snoc{i j k:Nat}(h:kg A i j)(ae:k∈A j):kg A i k:=by
 induction h with
 |one h=>exact .step h (.one ae)| step h t aL=>exact .step h (aL ae)
def vu:List Nat->List Nat->List Nat
 |[],l=>l| x::r,l=>vu r (bif l.contains x then l else l++[x])
def Fl:∀ (r l:List Nat) (x:Nat),x∈vu r l ↔ x∈l\/x∈r
 |[],l,x=>by simp[vu]
 |y::r,l,x=>by
  rw[vu,Fl r];cases h:l.contains y with
  |true=>
   have aE:y∈l:=by simpa using h
   rw[b5];constructor
   ·rintro(a | a)
    ·exact .inl a
    ·exact .inr (.tail _ a)
   ·rintro(a | a)
    ·exact .inl a
    ·rcases ec.1 a with rfl | a
     ·exact .inl aE
     ·exact .inr a
  |false=>
   rw[b'];rw[cB,ed,ec];constructor
   ·rintro((a | a) | a)
    ·exact .inl a
    ·exact .inr (.inl a)
    ·exact .inr (.inr a)
   ·rintro(a | a | a)
    ·exact .inl (.inl a)
    ·exact .inl (.inr a)
    ·exact .inr a
def abG:∀ (r l:List Nat),∃ s,vu r l=l++s
 |[],l=>⟨[],by simp[vu]⟩
 |y::r,l=>by
  obtain⟨s,ar⟩:=abG r (bif l.contains y then l else l++[y]);rw[vu,ar];cases l.contains y with
  |true=>exact⟨s,rfl⟩| false=>exact⟨[y]++s,by simp⟩
def abH:∀ (r l:List Nat),l.Nodup->(vu r l).Nodup
 |[],l,h=>h
 |y::r,l,h=>by
  rw[vu];apply abH r;cases an:l.contains y with
  |true=>exact h
  |false=>
   have aE:y ∉ l:=by simpa using an
   rw[b',uq];refine⟨h,by simp,λa a4 b ag e=>?_⟩;have:b=y:=by simpa using ag
   subst this;subst e;exact aE a4
def abI:∀ (n:Nat) (l:List Nat),l.Nodup->(∀ x∈l,x<n)->l.length<=n
 |0,[],_,_=>ca _| 0,a::l,_,h=>absurd (h a (.head _)) (nT _)
 |n+1,l,ak,h=>by
  have aa:=abI n (l.erase n) (ak.erase n) λx ad=>by have ab:=h x (List.mem_of_mem_erase ad);have aj:x≠n:=(ak.mem_erase_iff.1 ad).1;omega
  have aI:=List.length_erase (a:=n) (l:=l);split at aI<;>omega
def Fm(A:Nat->List Nat):Nat->Nat->List Nat->List Nat
 |0,_,l=>l
 |f+1,k,l=>match l[k]? with
  |some x=>Fm A f (k+1) (vu (A x) l)| none=>l
structure uc(A:Nat->List Nat)(n k:Nat)(fs l:List Nat):Prop where
 cd:l.Nodup
 lt:∀ x∈l,x<n
 sub:∀ x∈fs,x∈l
 src:∀ x∈l,x∈fs\/∃ y∈fs,kg A y x
 og:∀ j x,j<k->l[j]?=some x->∀ y∈A x,y∈l
 k:k<=l.length
def uc.len{k:Nat}{fs:List Nat}(h:uc A n k fs l):l.length<=n:=abI n l h.cd h.lt
def uc.next{A:Nat->List Nat}{n k:Nat}{fs l:List Nat}(dJ:∀ x,∀ y∈A x,y<n)(h:uc A n k fs l){x:Nat}(ad:l[k]?=some x):uc A n (k+1) fs (vu (A x) l):=by
 obtain⟨s,ar⟩:=abG (A x) l;have ae:k<l.length:=by
  rcases Nat.lt_or_ge k l.length with aa | aa;·exact aa
  ·rw[rk aa]at ad;cases ad
 have ij:x∈l:=st ad;refine⟨abH _ _ h.cd,λz bb=>?_,λz bb=>(Fl _ _ _).2 (.inl (h.sub z bb)),λz bb=>?_,λj z ai bb y aE=>?_,by rw[ar];simp;omega⟩
 ·rcases(Fl _ _ _).1 bb with a | a
  ·exact h.lt z a
  ·exact dJ x z a
 ·rcases(Fl _ _ _).1 bb with a | a
  ·exact h.src z a
  ·rcases h.src x ij with b | ⟨w,hw,b⟩
   ·exact .inr ⟨x,b,.one a⟩
   ·exact .inr ⟨w,hw,b.snoc a⟩
 ·have g9:l[j]?=some z:=by rw[ar,rj (by omega)]at bb;exact bb
  by_cases e:j=k;·subst e;rw[ad]at g9;obtain rfl:=fh g9;exact(Fl _ _ _).2 (.inr aE)
  ·exact(Fl _ _ _).2 (.inl (h.og j z (by omega) g9 y aE))
def uc.done{i:Nat}(h:uc A n l.length (A i) l)(x:Nat):x∈l ↔ kg A i x:=by
 constructor
 ·intro ad;rcases h.src x ad with a | ⟨y,aE,a⟩
  ·exact .one a
  ·exact .step aE a
 ·have cl:∀ {y z:Nat},kg A y z->y∈l->z∈l:=fun {y z} an=>by
   induction an with
   |one ae=>intro aE;obtain⟨j,ai,e⟩:=ka aE;exact h.og j _ ai (by rw[dg ai,e]) _ ae
   |step ai t aL=>intro aE;refine aL ?_;obtain⟨q,aR,e⟩:=ka aE;exact h.og q _ aR (by rw[dg aR,e]) _ ai
  intro an;cases an with
  |one ae=>exact h.sub x ae| step ai t=>exact cl t (h.sub _ ai)
def S0{pl:List (ByteArray×Int)}(af:right t=true){j:Nat}(ai:j<t.ns.length):(o7 pl F t.ns j).2=true ↔ ∃ k∈t.ns[j].aw,(t.ns[j].k=6/\t.ns[j].hi=-1/\(en pl F t.ns []).getD k.toNat bZ=(en pl F t.ns []).getD k.toNat bZ/\((en pl F t.ns []).getD k.toNat bZ).z=true)\/(o7 pl F t.ns k).2=true:=by
 have m8:∀ k∈t.ns[j].aw,(o7 pl F t.ns k).1.1=(en pl F t.ns []).getD k.toNat bZ:=λk ae=>by obtain⟨aa,ab⟩:=mj af j ai k ae;obtain⟨q,rfl⟩:=eH aa;rw[ML af (q+1) q (by omega) (by omega),QT]
 rw[abF af ai];show yD pl F t.ns[j] _=true ↔ _;unfold yD;rw[wY];constructor
 ·rintro⟨x,ad,h⟩;obtain⟨k,ae,rfl⟩:=cN.1 ad;refine⟨k,ae,?_⟩;rw[m8 k ae]at h;simp only[kQ,cz,hV]at h;rcases h with⟨a,b,c⟩ | h
  ·exact .inl ⟨a,b,rfl,c⟩
  ·exact .inr h
 ·rintro⟨k,ae,h⟩;refine⟨_,cN.2 ⟨k,ae,rfl⟩,?_⟩;rw[m8 k ae];simp only[kQ,cz,hV];rcases h with⟨a,b,-,c⟩ | h
  ·exact .inl ⟨a,b,c⟩
  ·exact .inr h
def abJ{pl:List (ByteArray×Int)}{F:List aW}{t:bS}(af:right t=true):∀ (m j:Nat),j<t.ns.length->t.ns.length-j<=m->(o7 pl F t.ns j).2=true->(o7 pl F t.ns t.bn).2=true
 |0,j,ai,hm,_=>by omega
 |m+1,j,ai,hm,h=>by
  by_cases e:(j:Int)=t.bn;·rw[<-e];exact h
  ·obtain⟨p,aC,ae,aX⟩:=XP af ai e;exact abJ af m p aC (by omega) ((S0 af aC).2 ⟨_,ae,.inr h⟩)
def an0{l:List Int}{k:Int}(ae:k∈l)(h:l.length=1):l.headD 0=k:=by
 match l,h with
 |[a],_=>exact(ed.1 ae).symm
def abK{pl:List (ByteArray×Int)}{F:List aW}{t:bS}(af:right t=true)(aa:∀ d∈t.ns,d.k=6->d.aw.length=1):∀ (m j:Nat),j<m->∀ (ai:j<t.ns.length),(o7 pl F t.ns j).2=true->oe t.ns (en pl F t.ns [])=true
 |0,j,h,_,_=>absurd h (nT _)
 |m+1,j,hm,ai,h=>by
  obtain⟨k,ae,⟨a,b,-,c⟩ | h⟩:=(S0 af ai).1 h;·refine wY.2 ⟨t.ns[j],br ai,?_⟩;simp only[cz,hV];refine⟨a,b,?_⟩;rw[an0 ae (aa _ (br ai) a)];exact c
  ·obtain⟨ab,aj⟩:=mj af j ai k ae;obtain⟨q,rfl⟩:=eH ab;exact abK af aa m q (by omega) (by omega) h
def an1{pl:List (ByteArray×Int)}(af:right t=true)(aa:∀ d∈t.ns,d.k=6->d.aw.length=1):(o7 pl F t.ns t.bn).2=oe t.ns (en pl F t.ns []):=by
 obtain⟨k4,iT⟩:=qw af;obtain⟨r,fJ⟩:=eH k4;apply sm.2;constructor
 ·intro h;rw[fJ]at h;exact abK af aa (r+1) r (by omega) (by omega) h
 ·intro h;obtain⟨d,ak,h⟩:=wY.1 h;obtain⟨j,ai,rfl⟩:=ka ak;simp only[cz,hV]at h;obtain⟨a,b,c⟩:=h;have ay:=aa _ ak a;have ae:t.ns[j].aw.headD 0∈t.ns[j].aw:=by
   match ad:t.ns[j].aw,ay with
   |[q],_=>simp
  exact abJ af t.ns.length j ai (by omega) ((S0 af ai).2 ⟨_,ae,.inl ⟨a,b,rfl,c⟩⟩)
def abL{b:Bool}{x:Nat}:∀ {xs:List (aW×List Nat)},x∈AD b xs->∃ y∈xs,x∈y.2
 |[],h=>by rw[anW]at h;cases h
 |y::xs,h=>by
  rw[anX]at h;rcases cB.1 h with h | h;·exact⟨y,.head _,h⟩
  ·cases ag:b && !y.1.z with
   |true=>rw[ag]at h;cases h| false=>rw[ag]at h;obtain⟨z,bb,ad⟩:=abL (xs:=xs) h;exact⟨z,.tail _ bb,ad⟩
def abM{ds:List aP}{F:List aW}{t:bS}(af:right t=true)(ea:wA (bD ds) t.ns=true):∀ (m j:Nat),j<m->j<t.ns.length->∀ x∈(gd (bD ds) F t.ns j).2,x<ds.length
 |0,j,h,_=>absurd h (nT _)
 |m+1,j,hm,ai=>by
  intro x ad;rw[QS af ai]at ad;have ad:x∈kc (bD ds) t.ns[j] (t.ns[j].aw.map (gd (bD ds) F t.ns)):=ad;have hv:=fy.1 ea _ (br ai);by_cases aj:t.ns[j].k=3
  ·obtain⟨q,Ce,u',IP⟩:=abo (nm:=t.ns[j].t) (ds:=ds) (by simpa[aj]using hv);rw[kc,e9 aj,b5,IP]at ad;have:x=q:=by simpa using ad
   omega
  by_cases b4:t.ns[j].k=6/\t.ns[j].hi=0;·rw[kc,et aj,b',et (show ¬ t.ns[j].k=4 by omega),b',e9 b4.1,e9 b4.2]at ad;cases ad
  ·rw[anY aj b4]at ad;obtain⟨y,aE,an2⟩:=abL ad;obtain⟨k,ae,rfl⟩:=cN.1 aE;obtain⟨aa,ab⟩:=mj af j ai k ae;obtain⟨q,rfl⟩:=eH aa;exact abM af ea m q (by omega) (by omega) x an2
def S1(a':wC g)(i:Nat):∀ k∈jE g.ds F i,k<g.ds.length:=by
 intro k ae;unfold jE at ae;by_cases h:i<g.ds.length
 ·rw[dg h]at ae;have gz:=br h;have af:=a'.right _ gz;obtain⟨k4,iT⟩:=qw af;obtain⟨r,fJ⟩:=eH k4;have ae:k∈(gd (bD g.ds) F g.ds[i].t.ns g.ds[i].t.bn).2:=ae;rw[fJ]at ae;exact abM af (a'.named _ gz) (r+1) r (by omega) (by omega) k ae
 ·rw[rk (by omega)]at ae;cases ae
def abN(a':wC g)(k3:g.ds.length<=64){i k:Nat}(hi:i<64):qO (qX g.ds F).m i k ↔ kg (jE g.ds F) i k:=by
 constructor
 ·intro h
  induction h with
  |one ae h=>rw[MJ k3 ae]at h;exact .one (by simpa using h)| step h ai t aL=>rw[MJ k3 ai]at h;exact .step (by simpa using h) (aL ai)
 ·intro h
  induction h with
  |one h=>have:=S1 a' _ _ h;exact .one (by omega) (by rw[MJ k3 (by omega)];simpa using h)| step h t aL=>have:=S1 a' _ _ h;exact .step (by rw[MJ k3 (by omega)];simpa using h) (by omega) (aL (by omega))
def abO(aB:n<=64)(p q:Nat->Bool)(aa:∀ k,k<n->p k=q k)(ab:∀ k,n<=k->k<64->p k=false):(List.range 64).filter p=(List.range n).filter q:=by
 have k3:(List.range 64)=List.range n++(List.range' n (64-n)):=by rw[xq,xq,show 64=n+(64-n) by omega,<-List.range'_append_1];simp
 have aj:(List.range' n (64-n)).filter p=[]:=by rw[RP];intro k ae;rw[List.mem_range'_1]at ae;rw[ab k (by omega) (by omega)];simp
 rw[k3,yb,aj,ee];apply Gv;intro k ae;exact aa k (by simpa using ae)
def an3(au:g.ok I)(a':wC g)(F:List aW)(i:Nat):pY g.ds F i=IS g.ds F i:=by
 unfold pY IS;by_cases h:i<g.ds.length
 ·rw[dg h];have gz:=br h;have af:=a'.right _ gz;have av:=(au.ds _ gz).t;refine an1 af λd ak ae=>?_;obtain⟨j,ai,rfl⟩:=ka ak;have bF:=av.ns _ ak;have:=(abh bF.k.1 (D3 af ai)).one (by omega);omega
 ·rw[rk (by omega)]
def an4(au:g.ok I)(a':wC g)(k3:g.ds.length<=64)(F:List aW):AB (qX g.ds F)=pZ g.ds F:=by
 unfold AB pZ bitsOf;refine abO k3 _ _ (λk ae=>?_) (λk ae eN=>?_)
 ·rw[abE k3 (by omega),an3 au a']
 ·rw[abE k3 eN,IS,rk ae]
open Classical in
noncomputable def r'(ds:List aP)(F:List aW):List Nat:=(List.range ds.length).filter λi=>decide (kg (jE ds F) i i)
def an5{ds:List aP}{i:Nat}(h:ds.length<=i):jE ds F i=[]:=by rw[jE,rk h]
open Classical in
def an6(a':wC g)(k3:g.ds.length<=64)(F:List aW):wZ (qX g.ds F)=r' g.ds F:=by
 unfold wZ r';refine abO k3 _ _ (λk ae=>?_) (λk ae eN=>?_)
 ·exact decide_eq_decide.2 (abN a' k3 (by omega))
 ·refine et λan=>?_;have an:=(abN a' k3 eN).1 an;have aB:=an5 (F:=F) ae;cases an with
  |one h=>rw[aB]at h;cases h| step h t=>rw[aB]at h;cases h
structure S2(d:ao):Prop where
 aN:d.aN<400
 t:d.t.size<8020
structure abP(t:bS):Prop where
 n:t.n<400
 ns:∀ cd∈t.ns,S2 cd
structure S3(d:aP):Prop where
 name:d.name.size<8020
 t:abP d.t
structure MM(g:cv):Prop where
 n:g.n<400
 ds:∀ d∈g.ds,S3 d
def wq.IT{d:ao}(h:wq I d)(ar:S2 d):d.ok I:=
 ⟨h.k,h.cx,h.s1,h.s2,h.c1,h.fK,h.lo,h.hi,h.a0.Eo (by have:=ar.aN;omega),h.aw⟩
def En.IT(h:En I t)(ar:abP t):t.ok I:=
 ⟨h.a0.Eo (by have:=ar.n;omega),λcd bF=>(h.ns cd bF).IT (ar.ns cd bF),h.bn⟩
def sT.IT(h:sT I g)(ar:MM g):g.ok I:=
 ⟨h.a0.Eo (by have:=ar.n;omega),λd ak=>⟨by have:=(ar.ds d ak).name;omega,(h.ds d ak).t.IT (ar.ds d ak).t⟩⟩
def Fo(h:dz ax g=0):g.n<=64:=by
 unfold dz at h;cases aa:decide ((g.n:Int)=0)with
 |true=>rw[aa]at h;simp at h
 |false=>
  rw[aa,b']at h;cases ab:nL g.ds with
  |false=>rw[ab]at h;simp at h
  |true=>
   rw[ab]at h;cases aj:oQ ax g with
   |true=>rw[aj]at h;simp at h| false=>unfold oQ at aj;simp only[sF,ss]at aj;omega
def abQ{A:Nat->List Nat}{n:Nat}{fs:List Nat}(dJ:∀ x,∀ y∈A x,y<n):∀ (f k:Nat) (l:List Nat),uc A n k fs l->n+1<=f+k->uc A n (Fm A f k l).length fs (Fm A f k l)
 |0,k,l,h,aA=>by have:=h.len;have:=h.k;omega
 |f+1,k,l,h,aA=>by
  rw[Fm];cases ad:l[k]? with
  |none=>
   have aa:k=l.length:=by have:=h.k;have:=List.getElem?_eq_none_iff.1 ad;omega
   subst aa;exact h
  |some x=>exact abQ dJ f (k+1) _ (h.next dJ ad) (by omega)
def kg.congr{B:Nat->List Nat}(h:∀ i k,k∈A i->k∈B i){i k:Nat}(an:kg A i k):kg B i k:=by
 induction an with
 |one aa=>exact .one (h _ _ aa)| step aa t aL=>exact .step (h _ _ aa) aL
def kg.trans{i j k:Nat}(h:kg A i j)(bc:kg A j k):kg A i k:=by
 induction h with
 |one h=>exact .step h bc| step h t aL=>exact .step h (aL bc)
def abR(a':wC g){i k:Nat}:k∈pX g.ds F i ↔ k∈jE g.ds F i:=by
 unfold pX;rw[ja];constructor
 ·rintro⟨-,h⟩;simpa using h
 ·intro h;exact⟨by simpa using S1 a' i k h,by simpa using h⟩
def an7(a':wC g){i k:Nat}:kg (pX g.ds F) i k ↔ kg (jE g.ds F) i k:=
 ⟨kg.congr λ_ _ h=>(abR a').1 h,kg.congr λ_ _ h=>(abR a').2 h⟩
def abS{ds:List aP}{i k:Nat}(h:k∈pX ds F i):k<ds.length:=by unfold pX at h;simpa using(ja.1 h).1
def an8(ds:List aP)(F:List aW)(i:Nat):(pX ds F i).Nodup:=List.Nodup.sublist zv xJ
def uc.start{ds:List aP}(i:Nat):uc (pX ds F) ds.length 0 (pX ds F i) (pX ds F i):=
 ⟨an8 ds F i,λx ad=>abS ad,λ_ h=>h,λ_ h=>.inl h,λj x ai=>absurd ai (nT _),dD _⟩
def CQ(ds:List aP)(F:List aW):List Nat:=(List.range ds.length).filter λi=>(Fm (pX ds F) (ds.length+1) 0 (pX ds F i)).contains i
open Classical in
def an9(a':wC g)(F:List aW):CQ g.ds F=r' g.ds F:=by
 unfold CQ r';refine Gv λi _=>?_;have aa:=abQ (λx y aE=>abS aE) (g.ds.length+1) 0 _ (uc.start (ds:=g.ds) (F:=F) i) (by omega);have ab:=(aa.done i).trans (an7 a');cases an:(Fm (pX g.ds F) (g.ds.length+1) 0 (pX g.ds F i)).contains i with
 |true=>exact(e9 (ab.1 (by simpa using an))).symm| false=>refine(et λh=>?_).symm;have:=ab.2 h;rw[<-List.contains_iff_mem,an]at this;cases this
def p0:List Bool->Nat
 |[]=>0| b::r=>bif b then p0 r+1 else p0 r
open Classical in
noncomputable def MN(ds:List aP):List aW:=if h:∃ F,jO ds F then h.choose else []
def S4{ds:List aP}(h:jO ds F):MN ds=F:=by have ad:∃ F,jO ds F:=⟨F,h⟩;unfold MN;rw[dif_pos ad];exact ad.choose_spec.unique h
def mH(ax:List Int)(g:cv)(r:Int×Int):Prop:=(dz ax g≠0/\r=(0,dz ax g))\/(dz ax g=0/\∃ F,jO g.ds F/\r=if 0<(r' g.ds F).length then((((r' g.ds F).headD 0:Nat):Int),42)else if 0<(pZ g.ds F).length then((((pZ g.ds F).headD 0:Nat):Int),43)else(0,0))
def mH.eq{l m:Int×Int}(h:mH ax g l)(bc:mH ax g m):l=m:=by
 rcases h with⟨a,rfl⟩ | ⟨a,F,d,rfl⟩<;>rcases bc with⟨bO,rfl⟩ | ⟨bO,dm,gM,rfl⟩
 ·rfl
 ·exact absurd bO a
 ·exact absurd a bO
 ·rw[d.unique gM]
def aoa(bu:ga I ax)(au:g.ok I)(l2:∀ d∈g.ds,vh d.t):Spec Tryz.prog 57 [g.val] I [] λv I' M'=>(∀ b o,I b=some o->I' b=some o)/\M'=[] /\ ∃ r:Int×Int,v=.tuple #[.int .i64 r.1,.int .i64 r.2]/\mH ax g r:=
 Spec.qU (anT bu au l2 Fo) λv I' M' h=>by
  obtain⟨aa,ab,r,aj,bB⟩:=h;refine⟨aa,ab,r,aj,?_⟩;rcases bB with bB | ⟨hm,F,c,d⟩;·exact .inl bB
  ·have a':=Lv au.n hm;have k3:=Fo hm;have fT:=au.n;refine .inr ⟨hm,F,c,?_⟩;rw[d,IR,bR (by simp),an6 a' (by omega),an4 au a' (by omega)]
def S5(bu:ga I ax)(au:g.ok I)(l2:∀ d∈g.ds,vh d.t):Spec Tryz.prog 13 [g.val] I [] λv I' M'=>(∀ b o,I b=some o->I' b=some o)/\M'=[] /\
  ∃ r:Int×Int,v=.int .i64 r.2/\mH ax g r:=by
 refine cb [] a6 Tryz.func13 rfl rfl rfl ?_;intro B az;refine be.mk [] [] _ (.refl _) (aoa bu au l2) ?_;rintro v I1 N -⟨cH,rfl,r,rfl,h⟩;exact⟨_,_,.refl,cH,rfl,r,rfl,h⟩
section
end
structure sb where
 k:Int
 cx:Int
 s1:Int
 s2:Int
 c1:Int
 t:List UInt8
 lo:Int
 hi:Int
 aw:List Int
def sb.cd(c:sb)(a:Option Addr)(n k:Nat):ao:=⟨c.k,c.cx,c.s1,c.s2,c.c1,⟨c.t.toArray⟩,c.lo,c.hi,a,n,k,c.aw⟩
inductive yE:List sb->List ao->Prop
 |nil:yE [] []| cons {c cs ns} (a:Option Addr) (n k:Nat) (t:yE cs ns):yE (c::cs) (c.cd a n k::ns)
structure w0 where
 ns:List sb
 bn:Int
structure IU(c:w0)(t:bS):Prop where
 ns:yE c.ns t.ns
 bn:t.bn=c.bn
structure h9 where
 name:List UInt8
 t:w0
inductive p1:List h9->List aP->Prop
 |nil:p1 [] []| cons {c cs ds} {t:bS} (h:IU c.t t) (k:p1 cs ds):p1 (c::cs) (⟨⟨c.name.toArray⟩,t⟩::ds)
def abT:Int->Bool
 | .ofNat k=>Nat.ble k 9223372036854775807| .negSucc k=>Nat.ble k 9223372036854775807
def abU:Int->Bool
 | .ofNat k=>Nat.ble k 18446744073709551615| .negSucc _=>false
def okB:Int->Bool
 | .ofNat k=>Nat.ble k 255| .negSucc _=>false
def aob(h:abT x=true):iR x:=by
 cases x with
 |ofNat k=>have:=bJ h;exact⟨by simp only[BL];omega,by simp only[BL];omega⟩| negSucc k=>have:=bJ h;exact⟨by omega,by omega⟩
def aoc(h:abU x=true):g' x:=by
 cases x with
 |ofNat k=>have:=bJ h;exact⟨by simp,by simp;omega⟩| negSucc k=>cases h
def aod(h:okB x=true):0<=x/\x<256:=by
 cases x with
 |ofNat k=>have:=bJ h;exact⟨by simp,by simp;omega⟩| negSucc k=>cases h
noncomputable def S6:ap->Option Int
 | .i .u8 n=>bY (okB n) (some n) none| _=>none
noncomputable def Fp:ap->Option Int
 | .i .u64 n=>bY (abU n) (some n) none| _=>none
noncomputable def Fq:ap->Option Int
 | .i .i64 n=>bY (abT n) (some n) none| _=>none
noncomputable def MO:ap->Option (List UInt8)
 | .s l=>bY (Nat.ble l.length 140737488355328) (some l) none| _=>none
section
variable{D:bP}{v:ap}{u:Value}
def aoe{n:Int}(h:S6 v=some n)(ah:aU D v u):u=.int .u8 n/\0<=n/\n<256:=by
 unfold S6 at h;split at h
 ·obtain⟨aa,ab⟩:=fW h;cases ab;simp only[aU]at ah;exact⟨ah,aod aa⟩
 ·cases h
def MP{n:Int}(h:Fp v=some n)(ah:aU D v u):u=.int .u64 n/\g' n:=by
 unfold Fp at h;split at h
 ·obtain⟨aa,ab⟩:=fW h;cases ab;simp only[aU]at ah;exact⟨ah,aoc aa⟩
 ·cases h
def MQ{n:Int}(h:Fq v=some n)(ah:aU D v u):u=.int .i64 n/\iR n:=by
 unfold Fq at h;split at h
 ·obtain⟨aa,ab⟩:=fW h;cases ab;simp only[aU]at ah;exact⟨ah,aob aa⟩
 ·cases h
def abV{l:List UInt8}(h:MO v=some l)(ah:aU D v u):u=.string ⟨l.toArray⟩/\(⟨l.toArray⟩:ByteArray).size<=140737488355328:=by
 unfold MO at h;split at h
 ·obtain⟨aa,ab⟩:=fW h;cases ab;simp only[aU]at ah;exact⟨ah,bJ aa⟩
 ·cases h
end
noncomputable def IV{R:Type}(G:GT)(m:bf fG)(x:ap)(size b:Nat)(K:List ap->Option R):Option R:=match x with
 | .sn=>K []| .so=>K []| .sl id off n c=>bY (Nat.ble n c) (bY (Nat.ble (Nat.mul n b) 140737488355328) (tW G m (.p id off) (Nat.mul n size) K) none) none| .sx id off e n=>bY (Nat.ble (Nat.mul n b) 140737488355328) (tW G m (.p id off) (Nat.mul n size) K) none| _=>none
noncomputable def ints:List ap->Option (List Int)
 |[]=>some []| v::l=>bo (Fq v) none λn=>bo (ints l) none λr=>some (n::r)
noncomputable def MR(G:GT)(m:bf fG):List ap->Option (List sb)
 |[]=>some []
 |a::b::c::d::e::f::g::h::x::l=>bo (S6 a) none λa=>bo (Fp b) none λb=>bo (Fp c) none λc=>bo (Fp d) none λd=>bo (Fp e) none λe=>bo (MO f) none λf=>bo (Fq g) none λg=>bo (Fq h) none λh=>
  bo (IV G m x 1 8 ints) none λks=>bo (MR G m l) none λns=>some (⟨a,b,c,d,e,f,g,h,ks⟩::ns)
 |_=>none
noncomputable def S7(G:GT)(m:bf fG)(x r:ap):Option w0:=bo (IV G m x 9 96 (MR G m)) none λns=>bo (Fq r) none λr=>some ⟨ns,r⟩
noncomputable def MS(G:GT)(m:bf fG):List ap->Option (List h9)
 |[]=>some []| a::x::r::l=>bo (MO a) none λa=>bo (S7 G m x r) none λt=>bo (MS G m l) none λds=>some (⟨a,t⟩::ds)
 |_=>none
noncomputable def S8(G:GT)(m:bf fG):ap->Option (List h9)
 | .a [x]=>IV G m x 3 48 (MS G m)| _=>none
section
variable{Y:gN}{D:bP}{m:bp}{I J:aJ}{M:List aD}
def S9(h:c9 Y D m I M)(bk:vt I M J){x:ap}(ad:aU D x u){K:List ap->Option R}{r:R}(af:IV Y.G m.t x size b K=some r) :
  ∃ a n c l vs,u=.slice a n c/\de J a n c size b vs/\bM D l vs/\K l=some r:=by
 unfold IV at af;split at af
 ·simp only[aU]at ad;exact⟨none,0,0,[],[],ad,⟨by simp,⟨ca _,by omega⟩,.inl rfl⟩,by simp[bM],af⟩
 ·simp only[aU]at ad;obtain⟨a,c,ad⟩:=ad;exact⟨some a,0,c,[],[],ad,⟨by simp,⟨dD _,by omega⟩,.inl rfl⟩,by simp[bM],af⟩
 ·rename_i id off n c;obtain⟨aa,af⟩:=fW af;obtain⟨ab,af⟩:=fW af;simp only[aU]at ad;obtain⟨a,a4,ad⟩:=ad;obtain⟨aS,l,vs,aG,a7,cn,dr⟩:=wK h (x:=.p id off) (u:=.pointer (some ⟨a.b,a.o+off,none⟩)) (by simp only[aU];exact⟨a,a4,rfl⟩) af;cases aG;obtain⟨a8,cs,T,f,ba,bQ,ft⟩:=a7;exact⟨_,n,c,l,vs,ad,⟨ft,⟨bJ aa,bJ ab⟩,.inr ⟨_,rfl,rfl,cs,T,f,bk.aN _ _ ba,bQ⟩⟩,cn,dr⟩
 ·rename_i id off e n;obtain⟨ab,af⟩:=fW af;simp only[aU]at ad;obtain⟨a,a4,an,ad⟩:=ad;obtain⟨aS,l,vs,aG,a7,cn,dr⟩:=wK h (x:=.p id off) (u:=.pointer (some ⟨a.b,a.o+off,none⟩)) (by simp only[aU];exact⟨a,a4,rfl⟩) af;cases aG;obtain⟨a8,cs,T,f,ba,bQ,ft⟩:=a7;exact⟨_,n,a.c-e,l,vs,ad,⟨ft,⟨by omega,bJ ab⟩,.inr ⟨_,rfl,rfl,cs,T,f,bk.aN _ _ ba,bQ⟩⟩,cn,dr⟩
 ·cases af
def abW:∀ {l:List ap} {vs:List Value} {ks:List Int},ints l=some ks->bM D l vs->vs=ks.map (Value.int .i64 ·)/\∀ x∈ks,iR x
 |[],vs,ks,h,ah=>by cases h;simp only[bM]at ah;exact⟨ah,by simp⟩
 |v::l,vs,ks,h,ah=>by unfold ints at h;obtain⟨n,aa,h⟩:=cp h;obtain⟨r,ab,h⟩:=cp h;cases h;simp only[bM]at ah;obtain⟨x,xs,a8,ba,rfl⟩:=ah;obtain⟨rfl,aG⟩:=MQ aa a8;obtain⟨rfl,a7⟩:=abW ab ba;exact⟨rfl,λx ad=>(ec.1 ad).elim (λe=>e ▸ aG) (a7 x)⟩
def abX(h:c9 Y D m I M)(bk:vt I M J):∀ (l:List ap) {vs:List Value} {cs:List sb},MR Y.G m.t l=some cs->bM D l vs->∃ ns:List ao,vs=ns.flatMap ao.cells/\yE cs ns/\∀ d∈ns,d.ok J
 |[],vs,cs,af,ah=>by cases af;simp only[bM]at ah;exact⟨[],ah,.nil,by simp⟩
 |a::b::c::d::e::f::g::i::x::l,vs,cs,af,ah=>by
  unfold MR at af;obtain⟨bO,aa,af⟩:=cp af;obtain⟨iM,ab,af⟩:=cp af;obtain⟨c',aj,af⟩:=cp af;obtain⟨gM,aI,af⟩:=cp af;obtain⟨cX,bB,af⟩:=cp af;obtain⟨uR,b4,af⟩:=cp af;obtain⟨dK,ef,af⟩:=cp af;obtain⟨gU,fl,af⟩:=cp af;obtain⟨ks,dW,af⟩:=cp af;obtain⟨jn,sD,af⟩:=cp af;cases af;simp only[bM]at ah;obtain⟨_,_,eg,⟨_,_,cy,⟨_,_,gG,⟨_,_,mm,⟨_,_,IL,⟨_,_,S',⟨_,_,Ta,⟨_,_,Tb,⟨_,_,aof,aog,rfl⟩,rfl⟩,rfl⟩,rfl⟩,rfl⟩,rfl⟩,rfl⟩,rfl⟩,rfl⟩:=ah;obtain⟨rfl,aG⟩:=aoe aa eg;obtain⟨rfl,a7⟩:=MP ab cy;obtain⟨rfl,cn⟩:=MP aj gG;obtain⟨rfl,dr⟩:=MP aI mm;obtain⟨rfl,lq⟩:=MP bB IL;obtain⟨rfl,l0⟩:=abV b4 S';obtain⟨rfl,As⟩:=MQ ef Ta;obtain⟨rfl,Iy⟩:=MQ fl Tb;obtain⟨dB,aN,dp,li,avI,rfl,wT,aoh,aoi⟩:=S9 h bk aof dW;obtain⟨rfl,Tc⟩:=abW aoi aoh;obtain⟨ns,rfl,Td,aoj⟩:=abX h bk l sD aog;refine⟨sb.cd ⟨bO,iM,c',gM,cX,uR,dK,gU,ks⟩ dB aN dp::ns,rfl,.cons dB aN dp Td,λy aE=>?_⟩;rcases ec.1 aE with rfl | aE;·exact⟨aG,a7,cn,dr,lq,k' l0 (by decide),As,Iy,wT,Tc⟩
  ·exact aoj y aE
def aok(h:c9 Y D m I M)(bk:vt I M J){x r:ap}{w:Value}{c:w0}(af:S7 Y.G m.t x r=some c)(ad:aU D x u)(hw:aU D r w):∃ t:bS,u=.slice t.a t.n t.c/\w=.int .i64 t.bn/\t.ok J/\IU c t:=by unfold S7 at af;obtain⟨ns,aa,af⟩:=cp af;obtain⟨k,ab,af⟩:=cp af;cases af;obtain⟨rfl,aG⟩:=MQ ab hw;obtain⟨a,n,c,l,vs,rfl,a7,cn,dr⟩:=S9 h bk ad aa;obtain⟨ds,rfl,lq,l0⟩:=abX h bk l dr cn;exact⟨⟨ds,a,n,c,k⟩,rfl,rfl,⟨a7,l0,aG⟩,⟨lq,rfl⟩⟩
def abY(h:c9 Y D m I M)(bk:vt I M J):∀ (l:List ap) {vs:List Value} {cs:List h9},MS Y.G m.t l=some cs->bM D l vs->∃ ds:List aP,vs=ds.flatMap aP.cells/\p1 cs ds/\∀ d∈ds,d.ok J
 |[],vs,cs,af,ah=>by cases af;simp only[bM]at ah;exact⟨[],ah,.nil,by simp⟩
 |a::x::r::l,vs,cs,af,ah=>by
  unfold MS at af;obtain⟨bO,aa,af⟩:=cp af;obtain⟨bq,ab,af⟩:=cp af;obtain⟨ds',aj,af⟩:=cp af;cases af;simp only[bM]at ah;obtain⟨_,_,eg,⟨_,_,cy,⟨_,_,gG,mm,rfl⟩,rfl⟩,rfl⟩:=ah;obtain⟨rfl,aG⟩:=abV aa eg;obtain⟨t,rfl,rfl,a7,cn⟩:=aok h bk ab cy gG;obtain⟨ds,rfl,dr,lq⟩:=abY h bk l aj mm;refine⟨⟨⟨bO.toArray⟩,t⟩::ds,rfl,.cons (c:=⟨bO,bq⟩) cn dr,λy aE=>?_⟩;rcases ec.1 aE with rfl | aE;·exact⟨aG,a7⟩
  ·exact lq y aE
def aol(h:c9 Y D m I M)(bk:vt I M J){x:ap}{cs:List h9}(af:S8 Y.G m.t x=some cs)(ad:aU D x u):∃ g:cv,u=g.val/\g.ok J/\p1 cs g.ds:=by
 unfold S8 at af;split at af
 ·simp only[aU,bM]at ad;obtain⟨_,⟨y,_,ad,rfl,rfl⟩,rfl⟩:=ad;obtain⟨a,n,c,l,vs,rfl,a7,cn,dr⟩:=S9 h bk ad af;obtain⟨ds,rfl,lq,l0⟩:=abY h bk l dr cn;exact⟨⟨ds,a,n,c⟩,rfl,⟨a7,l0⟩,lq⟩
 ·cases af
end
noncomputable def w1(f g:Nat)(text:List UInt8):Option (List h9×Int×IntKind×Int):=bo (Aa yz (lX yz f) g [.s text] ⟨.nil,0⟩) none λp=>match p.1 with
 | .t [x,.i .i64 a,.i k e]=>bo (S8 MB p.2.t x) none λc=>some (c,a,k,e)
 |_=>none
def aom(bu:ga I hP){g:Nat}{text:List UInt8}{c:List h9}{a:Int}{k:IntKind}{e:Int}(h:w1 f g text=some (c,a,k,e)) :
  Spec Tryz.prog g [.string ⟨text.toArray⟩] I [] λr J mb=>mb=[]/\(∀ b o,I b=some o->J b=some o)/\∃ G:cv,r=.tuple #[G.val,.int .i64 a,.int k e]/\G.ok J/\p1 c G.ds:=by
 unfold w1 at h;obtain⟨⟨v,m'⟩,aa,h⟩:=cp h;refine Spec.qU (anv bu aa (us:=[.string ⟨text.toArray⟩]) (by simp[bM,aU])) ?_;rintro r J mb⟨rfl,bm,I',M',bC,ah,hm,bk⟩;refine⟨rfl,bm,?_⟩;simp only at h;split at h
 ·obtain⟨c',ab,h⟩:=cp h;cases h;simp only[aU,bM]at ah;obtain⟨_,⟨u,_,hu,⟨_,_,rfl,⟨_,_,rfl,rfl,rfl⟩,rfl⟩,rfl⟩,rfl⟩:=ah;obtain⟨G,rfl,a8,ba⟩:=aol hm bk ab hu;exact⟨G,rfl,a8,ba⟩
 ·cases h
def sb.pl(c:sb):ao:=c.cd none 0 0
def w0.gq(c:w0):bS:=⟨c.ns.map sb.pl,none,c.ns.length,0,c.bn⟩
def h9.Te(c:h9):aP:=⟨⟨c.name.toArray⟩,c.t.gq⟩
def jF(cs:List h9):cv:=⟨cs.map h9.Te,none,cs.length,0⟩
def yE.a1{cs:List sb}{ns:List ao}(h:yE cs ns):ns.map ao.a1=cs.map sb.pl:=by
 induction h with
 |nil=>rfl| cons a n k t aL=>rw[b0,b0,aL];rfl
def yE.len{cs:List sb}{ns:List ao}(h:yE cs ns):ns.length=cs.length:=by
 induction h with
 |nil=>rfl| cons a n k t aL=>simp[aL]
def IU.a1{c:w0}(h:IU c t)(av:t.ok I):t.a1=c.gq:=by unfold bS.a1 w0.gq;rw[h.ns.a1,h.bn,<-av.n,h.ns.len]
def p1.a1{cs:List h9}{ds:List aP}(h:p1 cs ds)(ak:∀ d∈ds,d.ok I):ds.map aP.a1=cs.map h9.Te:=by
 induction h with
 |nil=>rfl| cons h k aL=>rw[b0,b0,aL λd fz=>ak d (.tail _ fz)];congr 1;unfold aP.a1 h9.Te;rw[h.a1 (ak _ (.head _)).t]
def p1.len{cs:List h9}{ds:List aP}(h:p1 cs ds):ds.length=cs.length:=by
 induction h with
 |nil=>rfl| cons h k aL=>simp[aL]
def Fs{cs:List h9}(h:p1 cs g.ds)(au:g.ok I):g.a1=jF cs:=by unfold cv.a1 jF;rw[h.a1 au.ds,<-au.n,h.len]
def aon(c:w0):Bool:=c.ns.all λn=>decide (n.aw.length<=1000)
def aoo{c:w0}(h:IU c t)(av:t.ok I)(ae:aon c=true):vh t:=λn aB=>by
 have aa:=(av.ns n aB).aN;have ab:n.a1∈c.ns.map sb.pl:=by rw[<-h.ns.a1];exact cN.2 ⟨n,aB,rfl⟩
 obtain⟨x,ad,e⟩:=cN.1 ab;have aj:=dw (fy.1 ae x ad);have aI:x.aw=n.aw:=congrArg ao.aw e;rw[aI]at aj;omega
def aop{cs:List h9}{ds:List aP}(h:p1 cs ds)(ak:∀ d∈ds,d.ok I)(ae:(cs.all λd=>d.t.ns.all λn=>decide (n.aw.length<=1000))=true):∀ d∈ds,vh d.t:=by
 induction h with
 |nil=>intro d ak;cases ak
 |cons h k aL=>
  simp only[xr,cz]at ae;intro d hm;rcases ec.1 hm with rfl | hm;·exact aoo h (ak _ (.head _)).t ae.1
  ·exact aL (λd fz=>ak d (.tail _ fz)) (by simpa using ae.2) d hm
def Tf(ds:List aP)(F:List aW)(i:Nat):jE (ds.map aP.a1) F i=jE ds F i:=by
 unfold jE;rw[jH,EC];cases ds[i]? with
 |none=>rfl| some d=>show(gd (bD ds) F (d.t.ns.map ao.a1) d.t.bn).2=_;rw[akx]
def aoq(ds:List aP)(F:List aW)(i:Nat):pY (ds.map aP.a1) F i=pY ds F i:=by
 unfold pY;rw[jH,EC];cases ds[i]? with
 |none=>rfl| some d=>show(o7 (bD ds) F (d.t.ns.map ao.a1) d.t.bn).2=_;rw[anZ]
def aor(ds:List aP)(F:List aW):pX (ds.map aP.a1) F=pX ds F:=by funext i;unfold pX;rw[bI,Tf]
def Tg(ds:List aP)(F:List aW):pZ (ds.map aP.a1) F=pZ ds F:=by unfold pZ;rw[bI];exact Gv λi _=>aoq ds F i
def aos(ds:List aP)(F:List aW):CQ (ds.map aP.a1) F=CQ ds F:=by unfold CQ;rw[bI,aor]
def abZ{ds:List aP}{l:List aW}(h:jO (ds.map aP.a1) l):jO ds l:=by
 refine⟨by rw[h.len,bI],λi hi=>?_,λm hm an=>?_⟩
 ·have:=h.fix i (by simpa using hi);rwa [EC,f',Ly]at this
 ·refine h.least m (by rw[hm,bI]) λi hi=>?_;rw[EC,f',Ly];exact an i (by simpa using hi)
def MT(ds:List aP)(F:List aW):Int×Int:=bif decide (0<(CQ ds F).length)then((((CQ ds F).headD 0:Nat):Int),42)else bif decide (0<(pZ ds F).length)then((((pZ ds F).headD 0:Nat):Int),43)else(0,0)
structure IW(cs:List h9)(F:List aW):Prop where
 may:dz hP (jF cs)=0
 IX:jO (jF cs).ds F
 XU:(cs.all λd=>d.t.ns.all λn=>decide (n.aw.length<=1000))=true
def IW.of{cs:List h9}(dZ:IW cs F)(au:g.ok I)(aV:p1 cs g.ds):dz hP g=0/\jO g.ds F/\(∀ d∈g.ds,vh d.t):=by
 have ey:=Fs aV au;have gn:g.ds.map aP.a1=(jF cs).ds:=congrArg cv.ds ey;have hm:dz hP g=0:=by rw[<-z1,ey];exact dZ.may
 refine⟨hm,?_,aop aV au.ds dZ.XU⟩;have:=dZ.IX;rw[<-gn]at this;exact abZ this
def ab0{cs:List h9}(dZ:IW cs F)(au:g.ok I)(aV:p1 cs g.ds)(h:mH hP g r):r=MT (jF cs).ds F:=by
 obtain⟨hm,bG,-⟩:=dZ.of au aV;have gn:g.ds.map aP.a1=(jF cs).ds:=congrArg cv.ds (Fs aV au);have a':=Lv au.n hm;rcases h with⟨a,-⟩ | ⟨-,dm,ov,rfl⟩
 ·exact absurd hm a
 ·obtain rfl:=bG.unique ov;rw[<-gn,MT,aos,Tg,an9 a'];by_cases aa:0<(r' g.ds F).length
  ·rw[bN aa,e9 aa,b5]
  ·rw[bR aa,et aa,b'];by_cases ab:0<(pZ g.ds F).length
   ·rw[bN ab,e9 ab,b5]
   ·rw[bR ab,et ab,b']
def IY(ds:List aP):Nat->List aW->List aW
 |0,L=>L| k+1,L=>IY ds k (ds.map (iq (bD ds) L))
def ab1{ds:List aP}:∀ (k:Nat) {L:List aW},oY ds L->ds.map (iq (bD ds) (IY ds k L))=IY ds k L->jO ds (IY ds k L)
 |0,L,aC,h=>by refine⟨aC.len,λi hi=>?_,aC.least⟩;have:=MK (f:=iq (bD ds) L) hi;have aa:ds.map (iq (bD ds) L)=L:=h;rw[aa]at this;exact this
 |k+1,L,aC,h=>ab1 k aC.all.1 h
def yF(cs:List h9)(k:Nat):List aW:=IY (jF cs).ds k (List.replicate (jF cs).ds.length bZ)
def Ft(cs:List h9)(F:List aW)(k:Nat):Bool:=decide (dz hP (jF cs)=0)&&(decide (yF cs k=F)&&(decide ((jF cs).ds.map (iq (bD (jF cs).ds) F)=F)&&cs.all λd=>d.t.ns.all λn=>decide (n.aw.length<=1000)))
def Th{cs:List h9}{k:Nat}(h:Ft cs F k=true):IW cs F:=by simp only[Ft,cz,hV]at h;obtain⟨aa,ab,aj,aI⟩:=h;refine⟨aa,?_,by simpa using aI⟩;have:=ab1 k (oY.start (jF cs).ds);unfold yF at ab;rw[ab]at this;exact this aj
section
end
section
end
def AE(p:Nat->Bool)(n:Nat):List Int:=((List.range n).filter p).map λ(k:Nat)=>(k:Int)
def ab2{ds:List aP}{n:Nat}(aB:ds.length=n):∀ (names:List ByteArray) (s:List Bool),s.length=n->∀ k,k<n->((names.foldl (λs nm=>rQ n s (cu nm ds 0)) s).getD k false=true ↔ s.getD k false=true\/∃ nm∈names,cu nm ds 0=(k:Int))
 |[],s,ar,k,ae=>by simp
 |nm::names,s,ar,k,ae=>by
  rw[js,ab2 aB names _ (by rw[Xe];exact ar) k ae];have hm:(rQ n s (cu nm ds 0)).getD k false=true ↔ s.getD k false=true\/cu nm ds 0=(k:Int):=by
   unfold rQ;cases ag:decide (0<=cu nm ds 0)&&decide (cu nm ds 0<n)with
   |true=>
    rw[b5];simp at ag;simp only[bA,ih];by_cases e:(cu nm ds 0).toNat=k
    ·have:cu nm ds 0=(k:Int):=by omega
     simp[e,this,ar,ae]
    ·have:¬ cu nm ds 0=(k:Int):=by omega
     simp[e,this]
   |false=>
    rw[b'];have:¬ cu nm ds 0=(k:Int):=by intro e;rw[e]at ag;simp at ag;omega
    simp[this]
  rw[hm];constructor
  ·rintro((h | h) | ⟨x,ad,h⟩)
   ·exact .inl h
   ·exact .inr ⟨nm,by simp,h⟩
   ·exact .inr ⟨x,by simp[ad],h⟩
  ·rintro(h | ⟨x,ad,h⟩)
   ·exact .inl (.inl h)
   ·rcases ec.1 ad with rfl | ad
    ·exact .inl (.inr h)
    ·exact .inr ⟨x,ad,h⟩
def IZ{nm:ByteArray}:∀ (ds:List aP) (i k:Nat),cu nm ds i=(k:Int)->∃ j,∃ (h:j<ds.length),k=i+j/\ds[j].name=nm
 |[],i,k,h=>by unfold cu at h;omega
 |d::ds,i,k,h=>by
  unfold cu at h;cases an:decide (d.name=nm)with
  |true=>rw[an,b5]at h;exact⟨0,by simp,by omega,by simpa using an⟩| false=>rw[an,b']at h;obtain⟨j,ai,aG,a7⟩:=IZ ds (i+1) k h;exact⟨j+1,by simp;omega,by omega,by simpa using a7⟩
def aot(aB:g.ds.length=g.n)(h:dz ax g=0):∀ i (hi:i<g.ds.length),cu g.ds[i].name g.ds 0=(i:Int):=by
 rw[<-SR]at h;intro i hi;have gR:(List.range g.ds.length).all (nh g.ds)=true:=by
  unfold IN at h;cases ag:(List.range g.ds.length).all (nh g.ds)with
  |true=>rfl
  |false=>
   rw[ag]at h;exfalso;revert h;cases decide ((g.n:Int)=0)<;>cases(!nL g.ds)<;>cases oQ ax g<;>simp
 have:=fy.1 gR i (g7.2 hi);rw[anJ hi]at this;simpa using this
def mH.get(hm:dz ax g=0)(h:mH ax g r):r.2=0 ↔ (r' g.ds (MN g.ds)).length=0/\(pZ g.ds (MN g.ds)).length=0:=by
 rcases h with⟨a,-⟩ | ⟨-,F,c,rfl⟩
 ·exact absurd hm a
 ·rw[S4 c];by_cases aa:0<(r' g.ds F).length
  ·rw[bN aa];simp only;omega
  ·rw[bR aa];by_cases ab:0<(pZ g.ds F).length
   ·rw[bN ab];simp only;omega
   ·rw[bR ab];exact⟨λ_=>⟨by omega,by omega⟩,λ_=>rfl⟩
def ab3(bu:ga I ax)(av:t.ok I)(af:right t=true){r:Nat}(fJ:t.bn=(r:Int))(fv:r<t.ns.length):Spec Tryz.prog 32 [t.val] I M0 λv I' M'=>v=(t.ns[r].eB []).val/\I'=I/\M'=M0:=by refine cb [] a6 Tryz.func32 rfl rfl rfl ?_;intro B az;have hD:=av.n;obtain⟨aS,bH,bl⟩:=av.a0.row ao.cP (show r<t.n by omega) fv;generalize t.ns[r]=d at bl;refine be.mk [] M0 _ (.refl _) (qt bu.c av) ?_;rintro v J N -⟨rfl,rfl,rfl⟩;refine a2.mk (λh=>absurd h (by simp[af])) (λ_=>?_);refine bd.mk aS r bH fJ (by omega) ?_;refine aM.mk _ (bl _) ?_;exact⟨_,_,.refl,rfl,rfl,rfl⟩
def aY.lE(bG:vt I M J){xs:List Value}(h:os.ok size xs)(a':∀ x∈os.aq e,x∈M)(ag:os.n*b<=140737488355328):de J (os.a.map λg=>⟨g,0,none⟩) os.n os.c size b xs:=by
 obtain⟨a,n,c,aT⟩:=os;cases a with
 |none=>obtain⟨aa,ab⟩:=h.nil rfl;exact⟨h.len,⟨by simp only at aa ab |-;omega,ag⟩,.inl aa⟩
 |some g=>obtain⟨aa,ab,aj,aI⟩:=h.cap g rfl;exact⟨h.len,⟨ab,ag⟩,.inr ⟨⟨g,0,none⟩,rfl,rfl,aT.toArray,e,(0,0),bG.aN _ _ (.inr ⟨⟨g,.cells aT.toArray e (0,0)⟩,a' _ (.head _),rfl,rfl⟩),by simpa using aI⟩⟩
def de.CR{c:Nat}(h:de I a n c size b vs)(M:List aD)(az:0<n):∃ aS,a=some aS/\cF I M aS (n*size) vs:=by
 rcases h.rd with aa | ⟨aS,aa,ab,cs,T,al,aj,aI⟩
 ·omega
 ·exact⟨aS,aa,ab,cs,T,al,.inl aj,aI,h.len⟩
def I0(l:List Int):gv (l.map (.int .i64 ·))=true:=fy.2 λv ah=>by obtain⟨k,_,rfl⟩:=cN.1 ah;rfl
def ab4{f:α->List Value}(h:∀ x,gv (f x)=true)(l:List α):gv (l.flatMap f)=true:=fy.2 λv ah=>by obtain⟨x,_,ad⟩:=hb.1 ah;exact fy.1 (h x) v ad
def ao.one(d:ao):gv d.cells=true:=rfl
def aP.one(d:aP):gv d.cells=true:=rfl
def aou{c:Nat}(h:de I a n c 1 8 vs)(aa:gv vs=true):Spec Tryz.prog 117 [.slice a n c] I M0 λv I' M'=>I'=I/\∃ os:aY,os.n=n/\os.ok 1 vs/\v=os.val/\M'=os.aq 3++M0:=by
 refine cb [] a6 Tryz.func117 rfl rfl rfl ?_;intro B az;have jx:=h.cap;refine gw.R7 a6 rfl rfl ?_;refine a2.mk (λan=>?_) (λan=>?_)
 ·have aB:n=0:=by
   rcases h.rd with ab | ⟨aS,ab,_⟩;·exact ab
   ·rw[ab]at an;cases an
  subst aB;have aj:vs=[]:=iy (by rw[h.len,zf]);subst aj;exact⟨_,_,.refl,rfl,h6,rfl,lv 1,rfl,rfl⟩
 refine bX.mk λb ag sB=>?_;refine bz.EG a6 rfl (by simp) (e:=3) rfl rfl rfl ⟨some b,0,0,[]⟩ (xs:=[]) ⟨rfl,(λh=>by cases h),(λg h=>⟨rfl,ca _,dD _,rfl⟩)⟩ rfl (sa:=a) (m:=n) (c':=c) (b8:=vs) rfl h.len (h.CR _) aa [] M0 rfl (by simp only;omega) (by show(0+n)*8<=_;omega) ?_;intro os aB bw bx;rw[iz]at bx;exact⟨_,_,.refl,rfl,os,aB.trans (c8 n),bx,rfl,rfl⟩
def aov{c:Nat}(h:de I a n c 1 8 vs)(aa:gv vs=true):Spec Tryz.prog 117 [.slice a n c] I M0 λv I' M'=>(∀ b o,I b=some o->I' b=some o)/\M'=M0/\∃ bO c',v=.slice bO n c'/\de I' bO n c' 1 8 vs:=by refine Spec.qU (Spec.frame (Spec.lE (aou (M0:=[]) h aa))) ?_;rintro v J M⟨M',rfl,-,bk,rfl,-,I',M1,⟨rfl,os,rfl,bT,rfl,rfl⟩,bG⟩;have jx:=h.cap;exact⟨bk,rfl,_,_,rfl,aY.lE bG bT (λz bb=>hY _ bb) jx.2⟩
def aow{c:Nat}(h:de I a n c 9 96 vs)(aa:gv vs=true):Spec Tryz.prog 116 [.slice a n c] I M0 λv I' M'=>I'=I/\∃ os:aY,os.n=n/\os.ok 9 vs/\v=os.val/\M'=os.aq 66++M0:=by
 refine cb [] a6 Tryz.func116 rfl rfl rfl ?_;intro B az;have jx:=h.cap;refine gw.R7 a6 rfl rfl ?_;refine a2.mk (λan=>?_) (λan=>?_)
 ·have aB:n=0:=by
   rcases h.rd with ab | ⟨aS,ab,_⟩;·exact ab
   ·rw[ab]at an;cases an
  subst aB;have aj:vs=[]:=iy (by rw[h.len,zf]);subst aj;exact⟨_,_,.refl,rfl,h6,rfl,lv 9,rfl,rfl⟩
 refine bX.mk λb ag sB=>?_;refine bz.EG a6 rfl (by simp) (e:=66) rfl rfl rfl ⟨some b,0,0,[]⟩ (xs:=[]) ⟨rfl,(λh=>by cases h),(λg h=>⟨rfl,ca _,dD _,rfl⟩)⟩ rfl (sa:=a) (m:=n) (c':=c) (b8:=vs) rfl h.len (h.CR _) aa [] M0 rfl (by simp only;omega) (by show(0+n)*96<=_;omega) ?_;intro os aB bw bx;rw[iz]at bx;exact⟨_,_,.refl,rfl,os,aB.trans (c8 n),bx,rfl,rfl⟩
def aox{c:Nat}(h:de I a n c 3 48 vs)(aa:gv vs=true):Spec Tryz.prog 115 [.slice a n c] I M0 λv I' M'=>I'=I/\∃ os:aY,os.n=n/\os.ok 3 vs/\v=os.val/\M'=os.aq 35++M0:=by
 refine cb [] a6 Tryz.func115 rfl rfl rfl ?_;intro B az;have jx:=h.cap;refine gw.R7 a6 rfl rfl ?_;refine a2.mk (λan=>?_) (λan=>?_)
 ·have aB:n=0:=by
   rcases h.rd with ab | ⟨aS,ab,_⟩;·exact ab
   ·rw[ab]at an;cases an
  subst aB;have aj:vs=[]:=iy (by rw[h.len,zf]);subst aj;exact⟨_,_,.refl,rfl,h6,rfl,lv 3,rfl,rfl⟩
 refine bX.mk λb ag sB=>?_;refine bz.EG a6 rfl (by simp) (e:=35) rfl rfl rfl ⟨some b,0,0,[]⟩ (xs:=[]) ⟨rfl,(λh=>by cases h),(λg h=>⟨rfl,ca _,dD _,rfl⟩)⟩ rfl (sa:=a) (m:=n) (c':=c) (b8:=vs) rfl h.len (h.CR _) aa [] M0 rfl (by simp only;omega) (by show(0+n)*48<=_;omega) ?_;intro os aB bw bx;rw[iz]at bx;exact⟨_,_,.refl,rfl,os,aB.trans (c8 n),bx,rfl,rfl⟩
structure aoy(I:aJ)(t:bS)(os0:aY)(x:Nat×aY×List ao×aJ):Prop where
 i:x.1<=t.n
 ok:x.2.1.ok 9 (x.2.2.1.flatMap ao.cells)
 a1:x.2.2.1.map ao.a1=t.ns.map ao.a1
 ns:∀ d∈x.2.2.1,d.ok x.2.2.2
 le:∀ b o,I b=some o->x.2.2.2 b=some o
 a:x.2.1.a=os0.a
 v:x.2.1.val=os0.val
def aoz{L:List ao}{i:Nat}(hi:i<L.length){d:ao}(h:d.a1=L[i].a1):(L.set i d).map ao.a1=L.map ao.a1:=by
 rw[pw,h];refine zw λj=>?_;rw[ih];split
 ·rename_i e;subst e;rw[bI,bN hi,jH,dg hi];rfl
 ·rfl
def I2{bs:aY}(h:os.val=bs.val):os.n=bs.n/\os.c=bs.c:=by
 unfold aY.val at h;injection h with aa ab aj
 exact⟨ab,aj⟩
def aoA(av:t.ok I):Spec Tryz.prog 64 [t.val] I [] λv I' M'=>(∀ b o,I b=some o->I' b=some o)/\∃ (os:aY) (L:List ao),v=.agg #[os.val,.int .i64 t.bn]/\os.n=t.n/\os.ok 9 (L.flatMap ao.cells)/\M'=os.aq 66/\L.map ao.a1=t.ns.map ao.a1/\∀ d∈L,d.ok I':=by
 refine cb [] a6 Tryz.func64 rfl rfl rfl ?_;intro B az;have hD:=av.n;have jx:=av.a0.cap;refine be.whole _ (aow av.a0 (ab4 ao.one _)) ?_;rintro v J N -⟨rfl,os0,aoB,zP,rfl,gf⟩;subst N;refine di.inv (ι:=Nat×aY×List ao×aJ) (λx=>{ bi:=[(1,.ref 1 0),(2,.ref 2 0),(10,.val os0.val),(11,.val (.int .i64 os0.n)),(12,.val (.int .i64 x.1))],cl:=[(1,[os0.val,.int .i64 t.bn]),(2,[.slice none 0 0,.int .i64 0])],cD:=x.2.2.2,c0:=x.2.1.aq 66++[] }) (λx=>aoy J t os0 x) (λx=>t.n-x.1) ?_ ?_
 ·exact⟨(0,os0,t.ns,J),⟨dD _,zP,rfl,av.ns,λ_ _ h=>h,rfl,rfl⟩,.refl,hn,.cons rfl (.cons rfl (.nil))⟩
 rintro⟨i,os,L,K⟩⟨hi,bT,ey,rp,bm,s0,o8⟩;simp only at hi bT ey rp bm s0 o8;have ab5:L.length=t.ns.length:=by simpa using congrArg List.length ey
 obtain⟨jm,ab6⟩:=I2 o8;refine a2.mk (λh=>?_) (λh=>?_)
 rotate_left
 ·exact⟨_,_,.refl,bm,os,L,by rw[o8];rfl,by omega,bT,by rw[ee],ey,rp⟩
 have aX:i<t.n:=by have:(i:Int)<(os0.n:Int):=dw h;omega
 have qP:i<L.length:=by omega
 obtain⟨aS,bH,bl⟩:=aY.ok.row (I:=K) (M:=os.aq 66++[]) (e:=66) ao.cP (by decide) bT (λz bb=>hY _ bb) qP;have AF:=rp _ (br qP);have s3:=bH;rw[s0]at s3;refine bd.mk aS i s3 rfl (by omega) ?_;refine aM.mk _ bl ?_;refine cV.draw a6 rfl rfl rfl ?_;refine d'.whole _ (aov AF.a0 (I0 _)) (λv I' M' h x ad=>by rw[h.2.1];exact ad) ?_;rintro v iW N -⟨yG,gf,bO,c',rfl,ep⟩;subst N;refine bd.mk aS i s3 rfl (by omega) ?_;have e7:({ L[i]with dB:=bO,dp:=c' }:ao).ok iW:={ AF.mono yG with a0:=ep };have Ti:({ L[i]with dB:=bO,dp:=c' }:ao).a1=L[i].a1:=rfl;have g0:=aoz qP Ti;refine aY.L' (e:=66) ao.cells 9 ao.cP bT qP 8 (vs:=[.slice bO L[i].aN c']) (bJ rfl) rfl { L[i]with dB:=bO,dp:=c' } rfl [] [] (by simp) bH ?_;intro kd nw nM ob mc;refine bg.mk _ (cL (i:=i) (by omega)) ?_;refine⟨(i+1,kd,L.set i { L[i]with dB:=bO,dp:=c' },iW),⟨⟨aX,mc,g0.trans ey,λd ak=>?_,λb o h=>yG _ _ (bm _ _ h),nM.trans s0,nw.trans o8⟩,by simp only;omega⟩,.refl,hn,.cons rfl (.cons rfl (.nil))⟩;rcases yy ak with ak | rfl
 ·exact(rp _ ak).mono yG
 ·exact e7
def ab7(av:t.ok I):Spec Tryz.prog 64 [t.val] I M0 λv I' M'=>(∀ b o,I b=some o->I' b=some o)/\M'=M0/\∃ bq:bS,v=bq.val/\bq.ok I'/\bq.a1=t.a1:=by refine Spec.qU (Spec.frame (Spec.lE (aoA av))) ?_;rintro v J M⟨M',rfl,-,bk,rfl,-,I',M1,⟨aa,os,L,rfl,aB,bT,rfl,ey,rp⟩,bG⟩;have jx:=av.a0.cap;refine⟨bk,rfl,⟨L,os.a.map λg=>⟨g,0,none⟩,os.n,os.c,t.bn⟩,rfl,⟨aY.lE bG bT (λ_ h=>h) (by omega),λd ak=>(rp d ak).mono bG.le,av.bn⟩,?_⟩;unfold bS.a1;rw[ey,aB]
structure aoC(I:aJ)(g:cv)(os0:aY)(x:Nat×aY×List aP×aJ):Prop where
 i:x.1<=g.n
 ok:x.2.1.ok 3 (x.2.2.1.flatMap aP.cells)
 a1:x.2.2.1.map aP.a1=g.ds.map aP.a1
 ds:∀ d∈x.2.2.1,d.ok x.2.2.2
 le:∀ b o,I b=some o->x.2.2.2 b=some o
 a:x.2.1.a=os0.a
 v:x.2.1.val=os0.val
def aoD{L:List aP}{i:Nat}(hi:i<L.length){d:aP}(h:d.a1=L[i].a1):(L.set i d).map aP.a1=L.map aP.a1:=by
 rw[pw,h];refine zw λj=>?_;rw[ih];split
 ·rename_i e;subst e;rw[bI,bN hi,jH,dg hi];rfl
 ·rfl
def aoE(au:g.ok I):Spec Tryz.prog 63 [g.val] I [] λv I' M'=>(∀ b o,I b=some o->I' b=some o)/\∃ (os:aY) (L:List aP),v=.agg #[os.val]/\os.n=g.n/\os.ok 3 (L.flatMap aP.cells)/\M'=os.aq 35/\L.map aP.a1=g.ds.map aP.a1/\∀ d∈L,d.ok I':=by
 refine cb [] a6 Tryz.func63 rfl rfl rfl ?_;intro B az;have fT:=au.n;have jx:=au.a0.cap;refine be.whole _ (aox au.a0 (ab4 aP.one _)) ?_;rintro v J N -⟨rfl,os0,aoB,zP,rfl,gf⟩;subst N;refine di.inv (ι:=Nat×aY×List aP×aJ) (λx=>{ bi:=[(1,.ref 1 0),(2,.ref 2 0),(10,.val os0.val),(11,.val (.int .i64 os0.n)),(12,.val (.int .i64 x.1))],cl:=[(1,[os0.val]),(2,[.slice none 0 0])],cD:=x.2.2.2,c0:=x.2.1.aq 35++[] }) (λx=>aoC J g os0 x) (λx=>g.n-x.1) ?_ ?_
 ·exact⟨(0,os0,g.ds,J),⟨dD _,zP,rfl,au.ds,λ_ _ h=>h,rfl,rfl⟩,.refl,hn,.cons rfl (.cons rfl (.nil))⟩
 rintro⟨i,os,L,K⟩⟨hi,bT,ey,gn,bm,s0,o8⟩;simp only at hi bT ey gn bm s0 o8;have ab5:L.length=g.ds.length:=by simpa using congrArg List.length ey
 obtain⟨jm,ab6⟩:=I2 o8;refine a2.mk (λh=>?_) (λh=>?_)
 rotate_left
 ·exact⟨_,_,.refl,bm,os,L,by rw[o8];rfl,by omega,bT,by rw[ee],ey,gn⟩
 have aX:i<g.n:=by have:(i:Int)<(os0.n:Int):=dw h;omega
 have qP:i<L.length:=by omega
 obtain⟨aS,bH,bl⟩:=aY.ok.row (I:=K) (M:=os.aq 35++[]) (e:=35) aP.cP (by decide) bT (λz bb=>hY _ bb) qP;have AF:=gn _ (br qP);have s3:=bH;rw[s0]at s3;refine bd.mk aS i s3 rfl (by omega) ?_;refine aM.mk _ bl ?_;refine cV.draw a6 rfl rfl rfl ?_;refine d'.whole _ (ab7 AF.t) (λv I' M' h x ad=>by rw[h.2.1];exact ad) ?_;rintro v iW N -⟨yG,gf,bq,rfl,s4,Tj⟩;subst N;refine bd.mk aS i s3 rfl (by omega) ?_;have e7:(⟨L[i].name,bq⟩:aP).ok iW:=⟨AF.name,s4⟩;have Ti:(⟨L[i].name,bq⟩:aP).a1=L[i].a1:=by unfold aP.a1;rw[Tj]
 have g0:=aoD qP Ti;refine aY.L' (e:=35) aP.cells 3 aP.cP bT qP 1 (vs:=[.slice bq.a bq.n bq.c,.int .i64 bq.bn]) (bJ rfl) rfl ⟨L[i].name,bq⟩ rfl [] [] (by simp) bH ?_;intro kd nw nM ob mc;refine bg.mk _ (cL (i:=i) (by omega)) ?_;refine⟨(i+1,kd,L.set i ⟨L[i].name,bq⟩,iW),⟨⟨aX,mc,g0.trans ey,λd ak=>?_,λb o h=>yG _ _ (bm _ _ h),nM.trans s0,nw.trans o8⟩,by simp only;omega⟩,.refl,hn,.cons rfl (.cons rfl (.nil))⟩;rcases yy ak with ak | rfl
 ·exact(gn _ ak).mono yG
 ·exact e7
def aoF(au:g.ok I):Spec Tryz.prog 63 [g.val] I M0 λv I' M'=>(∀ b o,I b=some o->I' b=some o)/\∃ (os:aY) (L:List aP),v=.agg #[os.val]/\os.n=g.n/\os.ok 3 (L.flatMap aP.cells)/\M'=os.aq 35++M0/\L.map aP.a1=g.ds.map aP.a1/\∀ d∈L,d.ok I':=by refine Spec.qU (Spec.frame (aoE au)) ?_;rintro v J M⟨M',rfl,-,bk,aa,os,L,rfl,aB,bT,rfl,ey,gn⟩;exact⟨bk,os,L,rfl,aB,bT,rfl,ey,gn⟩
def aoG(au:g.ok I){u:Nat}(hu:u<g.ds.length)(aB:g.n<=1000000)(av:t.ok I):Spec Tryz.prog 16 [g.val,.int .i64 u,t.val] I [] λv I' M'=>(∀ b o,I b=some o->I' b=some o)/\∃ (os:aY) (L:List aP),v=.tuple #[.agg #[os.val],.bool true]/\os.n=g.n/\os.ok 3 (L.flatMap aP.cells)/\M'=os.aq 35/\L.map aP.a1=(g.ds.set u ⟨g.ds[u].name,t⟩).map aP.a1/\∀ d∈L,d.ok I':=by
 refine cb [] a6 Tryz.func16 rfl rfl rfl ?_;intro B az;have fT:=au.n;refine ct.mk (λ_=>?_) (λh=>absurd h (by simp));refine a2.mk (λh=>?_) (λ_=>?_)
 ·have:(g.n:Int)<=(u:Int):=dw h;omega
 refine be.whole _ (aoF au) ?_;rintro v J N -⟨bk,os,L,rfl,jm,bT,gf,ey,gn⟩;subst N;have ab5:L.length=g.ds.length:=by simpa using congrArg List.length ey
 have MU:u<L.length:=by omega
 refine cV.draw a6 rfl rfl rfl ?_;refine d'.whole _ (ab7 (av.mono bk)) (λv I' M' h x ad=>by rw[h.2.1];exact ad) ?_;rintro v iW N -⟨yG,gf,bq,rfl,s4,Tj⟩;subst N;obtain⟨aS,bH,bl⟩:=aY.ok.row (I:=iW) (M:=os.aq 35++[]) (e:=35) aP.cP (by decide) bT (λz bb=>hY _ bb) MU;have n1:L[u].a1=g.ds[u].a1:=by
  have aa:(L.map aP.a1)[u]?=(g.ds.map aP.a1)[u]?:=by rw[ey]
  rw[jH,jH,dg MU,dg hu]at aa;exact fh aa
 have hv:L[u].name=g.ds[u].name:=by have aa:L[u].a1.name=g.ds[u].a1.name:=congrArg aP.name n1;exact aa
 have e7:(⟨L[u].name,bq⟩:aP).ok iW:=⟨(gn _ (br MU)).name,s4⟩;refine bd.mk aS u bH rfl (show u<os.n by omega) ?_;refine aY.L' (e:=35) aP.cells 3 aP.cP bT MU 1 (vs:=[.slice bq.a bq.n bq.c,.int .i64 bq.bn]) (bJ rfl) rfl ⟨L[u].name,bq⟩ rfl [] [] (by simp) bH ?_;intro kd nw nM ob mc;refine⟨_,_,.refl,λb o h=>yG _ _ (bk _ _ h),kd,L.set u ⟨L[u].name,bq⟩,by rw[nw];rfl,by omega,mc,by simp,?_,λd ak=>?_⟩
 ·rw[pw,pw,ey];congr 1;unfold aP.a1;rw[Tj,hv]
 ·rcases yy ak with ak | rfl
  ·exact(gn _ ak).mono yG
  ·exact e7
def aoH(au:g.ok I){u:Nat}(hu:u<g.ds.length)(aB:g.n<=1000000)(av:t.ok I):Spec Tryz.prog 16 [g.val,.int .i64 u,t.val] I M0 λv I' M'=>(∀ b o,I b=some o->I' b=some o)/\M'=M0/\∃ h:cv,v=.tuple #[h.val,.bool true]/\h.ok I'/\h.n=g.n/\h.ds.map aP.a1=(g.ds.set u ⟨g.ds[u].name,t⟩).map aP.a1:=by refine Spec.qU (Spec.frame (Spec.lE (aoG au hu aB av))) ?_;rintro v J M⟨M',rfl,-,bk,rfl,-,I',M1,⟨aa,os,L,rfl,jm,bT,rfl,ey,gn⟩,bG⟩;exact⟨bk,rfl,⟨L,os.a.map λg=>⟨g,0,none⟩,os.n,os.c⟩,rfl,⟨aY.lE bG bT (λ_ h=>h) (by omega),λd ak=>(gn d ak).mono bG.le⟩,jm,ey⟩
def kh(z:Int):List Value:=[.int .i64 z]
def qY:∀ l:List Int,l.flatMap kh=l.map (.int .i64 ·)
 |[]=>rfl| z::l=>by rw[j6,qY l];rfl
structure aoI(fs:List Int)(I:aJ)(os0:aY)(x:Nat×aY×List Int):Prop where
 i:2*x.1<=fs.length+1
 ok:x.2.1.ok 1 (x.2.2.flatMap kh)
 len:x.2.2.length=fs.length
 dU:∀ k,k<fs.length->x.2.2[k]?=if k<x.1\/fs.length<=k+x.1 then fs[fs.length-1-k]? else fs[k]?
 a:x.2.1.a=os0.a
 v:x.2.1.val=os0.val
def ab8{os0:aY}{fs:List Int}(zP:os0.ok 1 (fs.map (.int .i64 ·)))(ag:os0.n<=1099511627776):Spec Tryz.prog 114 [os0.val] I (os0.aq 3++M0) λv I' M'=>I'=I/\∃ bs:aY,bs.val=os0.val/\bs.ok 1 (fs.reverse.map (.int .i64 ·))/\M'=bs.aq 3++M0:=by
 refine cb [] a6 Tryz.func114 rfl rfl rfl ?_;intro B az;have rY:=zP.m7;refine bg.mk ((fs.length:Int)-1) (by show IntKind.i64.wrap ((os0.n:Int)-1)=_;rw[wrap_i64 ⟨by omega,by omega⟩,rY]) ?_;refine di.inv (ι:=Nat×aY×List Int) (λx=>{ bi:=[(0,.val os0.val),(2,.val (.int .i64 x.1)),(3,.val (.int .i64 ((fs.length:Int)-1-x.1)))],cl:=[],cD:=I,c0:=x.2.1.aq 3++M0 }) (λx=>aoI fs I os0 x) (λx=>fs.length-x.1) ?_ ?_
 ·refine⟨(0,os0,fs),⟨by simp,by rw[qY];exact zP,rfl,λk ae=>?_,rfl,rfl⟩,.refl,.cons .refl (.cons .refl (.cons ?_ .nil)),.nil⟩
  ·simp only;rw[bR (by omega)]
  ·simp only[Int.ofNat_zero,Int.sub_zero];exact .refl
 rintro⟨i,os,l⟩⟨hi,bT,c2,fc,s0,o8⟩;simp only at hi bT c2 fc s0 o8;obtain⟨jm,ab6⟩:=I2 o8;refine a2.mk (λh=>?_) (λh=>?_)
 rotate_left
 ·have cI:¬ (i:Int)<(fs.length:Int)-1-i:=ek h;refine⟨_,_,.refl,rfl,os,o8,?_,rfl⟩;have e:l=fs.reverse:=by
   refine zw λk=>?_;by_cases ae:k<fs.length
   ·rw[fc k ae,List.getElem?_reverse ae];split
    ·rfl
    ·congr 1;omega
   ·rw[rk (by omega),rk (by rw[CM];omega)]
  rw[<-e,<-qY];exact bT
 have aX:(i:Int)<(fs.length:Int)-1-i:=dw h;obtain⟨j,ai⟩:∃ j:Nat,(fs.length:Int)-1-i=(j:Int):=⟨fs.length-1-i,by omega⟩;have dM:i<l.length:=by omega
 have eM:j<l.length:=by omega
 obtain⟨aS,bH,CS⟩:=aY.ok.row (I:=I) (M:=os.aq 3++M0) (e:=3) (f:=kh) (size:=1) (λ_=>rfl) (by decide) bT (λz bb=>hY _ bb) eM;obtain⟨zi,CT,P9⟩:=aY.ok.row (I:=I) (M:=os.aq 3++M0) (e:=3) (f:=kh) (size:=1) (λ_=>rfl) (by decide) bT (λz bb=>hY _ bb) dM;obtain rfl:aS=zi:=fh (bH.symm.trans CT);have s3:=bH;rw[s0]at s3;have avJ:l.length=os0.n:=by omega
 refine cV.draw a6 rfl rfl rfl ?_;refine bd.mk aS j s3 ai (by omega) ?_;refine aM.mk _ CS ?_;refine bd.mk aS i s3 rfl (by omega) ?_;refine aM.mk _ P9 ?_;refine bd.mk aS i s3 rfl (by omega) ?_;refine aY.L9 kh 1 (λ_=>rfl) (e:=3) bT dM l[j] rfl [] M0 rfl bH ?_;intro kd nw nM ob mc;refine bd.mk aS j s3 ai (by omega) ?_;refine aY.L9 kh 1 (λ_=>rfl) (e:=3) mc (show j<(l.set i l[j]).length by rw[n5];exact eM) l[i] rfl [] M0 rfl (by rw[nM];exact bH) ?_;intro aoJ Qb zQ avK GP;refine bg.mk _ (cL (i:=i) (by omega)) ?_;refine bg.mk ((fs.length:Int)-1-((i+1:Nat):Int)) (by rw[wrap_i64 ⟨by omega,by omega⟩];omega) ?_;refine⟨(i+1,aoJ,(l.set i l[j]).set j l[i]),⟨⟨by simp only;omega,GP,by simp only[n5];exact c2,λk ae=>?_,(zQ.trans nM).trans s0,(Qb.trans nw).trans o8⟩,by simp only;omega⟩,.refl,hl,.nil⟩;have pR:=fc i (by omega);have IQ:=fc j (by omega);rw[bR (by omega),dg dM]at pR;rw[bR (by omega),dg eM]at IQ;simp only;rw[ih,ih,n5];by_cases aG:j=k
 ·subst aG;rw[bN rfl,bN eM,bN (by omega),pR];congr 1;omega
 ·rw[bR aG];by_cases a7:i=k
  ·subst a7;rw[bN rfl,bN dM,bN (by omega),IQ];congr 1;omega
  ·rw[bR a7,fc k ae];by_cases cn:k<i\/fs.length<=k+i
   ·rw[bN cn,bN (by omega)]
   ·rw[bR cn,bR (by omega)]
def aoK(av:t.ok I)(af:right t=true)(aB:t.n<=1099511627776)(yH:node<t.n) :
  Spec Tryz.prog 135 [t.val,.int .i64 node] I M0 λv I' M'=>I'=I/\∃ os:aY,os.ok 1 ((zW t.ns node).reverse.map (.int .i64 ·))/\v=os.val/\os.n<=t.n/\valid t.ns.length (zW t.ns node).reverse/\M'=os.aq 3++M0:=by
 refine cb [] a6 Tryz.func135 rfl rfl rfl ?_;intro B az;have hD:=av.n;have avL:nb t.ns node<=t.ns.length:=Qk af t.ns.length node (by omega) (by omega);refine bX.mk λb1 ho QH=>?_;refine di.inv (ι:=aY×List Int×aY×List Int×Nat) (λx=>{ bi:=[(2,.ref 2 0),(5,.val x.2.2.1.val),(6,.val x.1.val)],cl:=[(2,t.cells)],cD:=I,c0:=x.2.2.1.aq 3++(x.1.aq 3++M0) }) (ajy t node) (λx=>g2 (nb t.ns) x.2.1) ?_ ?_
 ·refine⟨(⟨some b1,1,1,[.int .i64 node]⟩,[(node:Int)],h6,[],t.ns.length+1),⟨⟨rfl,(λh=>by cases h),λdK kq=>⟨rfl,ca _,by simp[maxLen],rfl⟩⟩,lv 1,λk ae=>?_,(λk ae=>by cases ae),?_,?_,rfl⟩,.refl,hl,.cons rfl (.nil)⟩
  ·simp only[ed]at ae;omega
  ·simp[g2]
  ·simp only[g2,b0,hy,h4,D1];omega
 rintro⟨todo,Tk,back,gL,f⟩⟨Fu,ud,MV,Fv,ue,Tl,sH⟩;simp only at Fu ud MV Fv ue Tl sH;have mf:=ud.m7;have uZ:=Fu.m7;refine a2.mk (λh=>?_) (λh=>?_)
 ·have ab9:0<todo.n:=by have:(0:Int)<(todo.n:Int):=dw h;omega
  obtain⟨o9,m,rfl⟩:∃ o9 m,Tk=o9++[m]:=by
   rcases wb Tk with aa | ⟨r,p,aa⟩;·subst aa;simp at uZ;omega
   ·exact⟨r,p,by simpa using aa⟩
  have hm:=MV m (by simp);obtain⟨m,rfl⟩:=eH hm.1;have je:m<t.n:=by omega
  have rE:m<t.ns.length:=by omega
  have avM:todo.n=o9.length+1:=by simpa using uZ
  have aca:=HI af rE;rw[HJ]at ue Tl;have fq:g2 (nb t.ns) [(m:Int)]=nb t.ns m:=by simp[g2]
  rw[fq,aca]at ue Tl;have avN:o9.length<=g2 (nb t.ns) o9:=Ql af λk ae=>MV k (by simp[ae]);have avO:t.ns[m].aw.length<=g2 (nb t.ns) t.ns[m].aw:=Ql af λk ae=>by have:=mj af m rE k ae;omega
  have w2:o9.length+t.ns[m].aw.length<=t.ns.length:=by omega
  obtain⟨aS,bH,bl⟩:=aY.Ca (I:=I) (e:=3) (M:=back.aq 3++(todo.aq 3++M0)) Fu (λx ad=>by simp[ad]) (j:=o9.length) (by simp);rw[aa5 rfl]at bl;have oh:=Fu;rw[cM]at oh;have oh:=aY.pop oh;have he:todo.n-1=o9.length:=by omega
  rw[he]at oh;have I3:o9.length<=todo.c:=by
   cases w3:todo.a with
   |none=>have:=(Fu.nil w3).1;omega| some I4=>have:=(Fu.cap I4 w3).2.1;omega
  obtain⟨ls,lu,hZ⟩:=av.a0.row ao.cP je rE;have ak:=av.ns _ (br rE);have e':=ak.aN;have rU:=ak.a0.cap;have jg:=mj af m rE;refine bg.mk ((o9.length:Nat):Int) (by show IntKind.i64.wrap ((todo.n:Int)-1)=_;rw[wrap_i64 ⟨by omega,by omega⟩];omega) ?_;refine bd.mk aS o9.length bH rfl (show o9.length<todo.n by omega) ?_;refine aM.mk _ bl ?_;refine cV.draw a6 rfl rfl rfl ?_;refine bg.mk ((o9.length:Nat):Int) (by show IntKind.i64.wrap ((todo.n:Int)-1)=_;rw[wrap_i64 ⟨by omega,by omega⟩];omega) ?_;refine l6.mk 0 o9.length rfl rfl (dD _) I3 ?_;refine bd.mk ls m lu rfl je ?_;refine aM.mk _ ((hZ _).part (k:=8) (m:=1) (by decide)) ?_;have aoL:∀ M,0<t.ns[m].aN->∃ aS,t.ns[m].dB=some aS/\cF I M aS (t.ns[m].aN*1) (t.ns[m].aw.map (.int .i64 ·)):=λM az=>ak.a0.CR M az;refine bz.EG a6 rfl (by simp) (e:=3) rfl rfl rfl ⟨todo.a,o9.length,todo.c,todo.aT⟩ oh rfl (sa:=t.ns[m].dB) (m:=t.ns[m].aN) (c':=t.ns[m].dp) (b8:=t.ns[m].aw.map (.int .i64 ·)) rfl (by rw[bI,e'];show _=t.ns[m].aN*1;omega) (aoL _) (I0 _) (back.aq 3) M0 rfl (by simp only;omega) (by show(o9.length+t.ns[m].aN)*8<=_;omega) ?_;intro s5 acb acc jL;rw[<-cM]at jL;refine bX.mk λbW gY KY=>?_;refine bz.oZ a6 rfl (by simp) (e:=3) rfl rfl rfl back ud rfl (cs:=[.int .i64 m]) rfl rfl rfl [] (s5.aq 3++M0) rfl (by omega) (by show(back.n+1)*8<=_;omega) ?_;intro acd avP avQ I5;have I5:acd.ok 1 ((gL++[(m:Int)]).map (.int .i64 ·)):=by rw[cM];exact I5
  refine⟨(s5,o9++t.ns[m].aw,acd,gL++[(m:Int)],f-1),⟨⟨jL,I5,λk ae=>?_,λk ae=>?_,?_,?_,?_⟩,?_⟩,.refl,hl,.cons rfl (.nil)⟩
  ·rcases cB.1 ae with ae | ae
   ·exact MV k (by simp[ae])
   ·have:=jg k ae;omega
  ·rcases cB.1 ae with ae | ae
   ·exact Fv k ae
   ·simp only[ed]at ae;omega
  ·simp only[HJ,ch,dx,fS];omega
  ·simp only[HJ];omega
  ·obtain⟨uR,rfl⟩:∃ uR,f=uR+1:=⟨f-1,by omega⟩;rw[sH,XS,g6,gm rE];rfl
  ·simp only;rw[HJ,HJ,fq,aca];omega
 have aoM:Tk=[]:=by have:¬ (0:Int)<(todo.n:Int):=ek h;exact iy (by omega)
 subst aoM;rw[XR]at sH;simp only[g2,hy,D1,c8]at ue;refine be.whole _ (ab8 (os0:=back) ud (by omega)) ?_;rintro v J N -⟨rfl,os,o8,bT,gf⟩;subst N;refine⟨_,os.aq 3++M0,.sub (.append (.refl _) (l' _ _)) .refl,rfl,os,by rw[sH];exact bT,o8.symm,?_,λk ae=>Fv k (by rw[sH]at ae;exact SD.1 ae),rfl⟩;have:=(I2 o8).1;omega
section
variable{X:cU}{β:Nat->Nat}{F:Fr}{C:dC}{I:aJ}{M:List aD}{o:Oper}{K:gi}
def bz.aoN(aO:cT X.P X.E){x y:Operand}{t:Nat}(aH:o.op=.call { callee:=.builtin .copy,args:=#[x,y],argTypes:=#[t,t] })(ak:∀ d,o.dst=some d->d<X.n)
 {c7 aF:dG} (av:X.E t=some c7) (dR:c7.bL=.slice e) (he:X.E e=some aF)
 {g c:Nat} {aT:List Value} (ad:bE F x=.val (.slice (some ⟨g,0,none⟩) n c)) (an:n*aF.size<=aT.length)
  {sa:Option Addr} {c':Nat} (aE:bE F y=.val (.slice sa n c')) {b8:List Value} (ay:b8.length=n*aF.size) (aB:0<n->∃ aS,sa=some aS/\cF I M aS (n*aF.size) b8) (aa:gv b8=true)
  (a9 post:List aD) (a':M=a9++⟨g,.cells aT.toArray e (0,0)⟩::post)
  (k:K (put o.dst (.val (.int .i64 n)) F) C I (a9++⟨g,.cells (cm aT 0 b8).toArray e (0,0)⟩::post)):bz X o F C I M K:=by
 refine⟨λa w Q ⟨β,aV⟩=>?_⟩;have hu:=R6 aO av dR;obtain⟨inf,z,hi,fr,iN,iw,kp⟩:=(aO _ _ he).inf;have au:w.heap[g]?=some (.cells aT.toArray e (0,0)):=aV.holds.m ⟨g,.cells aT.toArray e (0,0)⟩ (by rw[a'];simp);have er:=run_storeCells_at X.P g 0 e b8 0 aT.toArray w au (by rw[ay];simpa using an) (y2 aa);simp only[qb]at er;have aA:(Builtin.firstCells aF.size n (.slice sa n c')).run X.P w=.ok b8.toArray w:=by
  by_cases az:0<n
  ·obtain⟨aS,rfl,dL,cs,T,al,e',ah,ay⟩:=aB az;refine run_firstCells_some (P:=X.P) w aF.size n aS n c' b8 ay λj v ai=>?_;rw[eP _ dL,tk (e'.heap aV.holds)];rw[<-ah,k7]at ai;split at ai
   ·rw[nX]at ai;simpa using ai
   ·cases ai
  ·have ab:n=0:=by omega
   subst ab;have aj:b8=[]:=iy (by rw[ay,zf]);subst aj;cases sa with
   |none=>simp[Builtin.firstCells]| some aS=>exact run_firstCells_some (P:=X.P) w aF.size 0 aS 0 c' [] (by simp) λj v ai=>by simp at ai
 have ex:=dd aV.al ad;have oJ:=dd aV.al aE;refine iY (by rw[aH];simp) (v:=.int .i64 n) (w':=w.setRow g (cm aT 0 b8).toArray) ?_ ⟨_,_,_,_,⟨β,cK.put (x:=.val (.int .i64 n)) ?_ ak rfl⟩,k⟩
 ·have fa:(Builtin.copy_ #[t,t] o.type #[.slice (some ⟨g,0,none⟩) n c,.slice sa n c']).run X.P w=.ok (.int .i64 n) (w.setRow g (cm aT 0 b8).toArray):=by rw[<-fr]at aA;simp[Builtin.copy_,run_underlying hu,Builtin.lenOf,sizeOf,typeInfo,hi,aA,er,cm,goInt]
  unfold execOp;simp only[aH,resolve,invoke,builtin,ck,c3,bV,su,b0,hy,ex,oJ,fa]
 ·exact aV.xA a'
end
structure ace(d:ao)(ei:List Int)(y:Nat×aY×List Int):Prop where
 k:y.1<=d.aN
 ok:y.2.1.ok 1 (y.2.2.flatMap kh)
 n:y.2.1.n=d.aN
 eq:y.2.2=(d.aw.take y.1).map (λk=>ei.getD k.toNat 0)++d.aw.drop y.1
def aoO(av:t.ok I)(af:right t=true)(aB:t.n<=1099511627776)(yH:node<t.n) :
  Spec Tryz.prog 81 [t.val,.int .i64 node] I [] λv I' M'=>(∀ b o,I b=some o->I' b=some o)/\M'=[]/\∃ bq:bS,v=bq.val/\bq.ok I'/\LC t node bq:=by
 refine zc [] a6 Tryz.func81 rfl rfl rfl ?_;intro B az;have hD:=av.n;have jx:=av.a0.cap;refine be.mk [] [] _ (.refl _) (aoK (M0:=[]) av af aB yH) ?_;rintro v aoP N -⟨Bq,back,ud,rfl,Br,Fv,rfl⟩;subst aoP;obtain⟨rb,nj⟩:∃ rb,(zW t.ns node).reverse=rb:=⟨_,rfl⟩;rw[nj]at ud Fv;have mf:=ud.m7;refine mO.mk t.n t.n rfl rfl (ca _) (by show 8*t.n<=_;omega) (by omega) ?_;refine bX.mk λb9 jM u1=>?_;refine mO.mk 0 back.n rfl rfl (dD _) (by show 96*back.n<=_;omega) (by omega) ?_;refine bX.mk λb7 yd Lx=>?_;have wT:(rowOf [Value.int .i64 0] (t.n*1))=(List.replicate t.n (0:Int)).map (Value.int .i64):=by rw[tv,xI,e2]
 refine di.vU (ι:=Nat×List Int×aY×List ao×aJ) (λx=>{ bi:=[(2,.ref 2 0),(4,.ref 4 0),(5,.val back.val),(6,.val (.slice (some ⟨b9,0,none⟩) t.n t.n)),(7,.val x.2.2.1.val),(24,.val back.val),(25,.val (.int .i64 back.n)),(26,.val (.int .i64 x.1))],cl:=[(2,t.cells),(4,[.slice none 0 0,.int .i64 0])],cD:=x.2.2.2.2,c0:=dE b9 x.2.1::(x.2.2.1.aq 66++(back.aq 3++[])) }) (XT I t rb) (λx=>rb.length-x.1) ?_ ?_
 ·intro _;refine⟨(0,List.replicate t.n 0,⟨some b7,0,back.n,rowOf [.int .u8 0,.int .u64 0,.int .u64 0,.int .u64 0,.int .u64 0,.string ⟨#[]⟩,.int .i64 0,.int .i64 0,.slice none 0 0] (back.n*9)⟩,[],I),⟨dD _,by simp[hD],⟨rfl,(λh=>by cases h),λdK kq=>⟨by simp[vP,madeCells],dD _,by unfold maxLen;simp only;omega,by simp⟩⟩,rfl,(by rw[hD];rfl),(λd ak=>by cases ak),λ_ _ h=>h,(λc an=>by have:=PL an;omega),(λd ak=>by cases ak)⟩,.perm (List.Perm.swap _ _ _) (.n' (by rw[wT];simp only[ee];rfl)),jJ,.cons rfl (.cons rfl (.nil))⟩
 rintro⟨j,P,out,nk,J⟩⟨ai,AG,yI,jm,CU,AH,bk,I6,l2⟩;simp only at ai AG yI jm CU AH bk I6 l2;have tL:out.n=j:=by have:=yI.len;rw[iQ _ 9 ao.cP,jm]at this;omega
 subst tL;refine a2.mk (λh=>?_) (λh=>?_)
 ·have mA:out.n<rb.length:=by have:(out.n:Int)<(back.n:Int):=dw h;omega
  have hm:=Fv _ (br mA);obtain⟨m,yJ⟩:=eH hm.1;rw[yJ]at hm;have je:m<t.n:=by omega
  have rE:m<t.ns.length:=by omega
  obtain⟨aS,bH,I7⟩:=aY.Ca (I:=J) (e:=3) (M:=dE b9 P::(out.aq 66++(back.aq 3++[]))) ud (λx ad=>by simp[ad]) mA;rw[yJ]at I7;obtain⟨ls,lu,hZ⟩:=(av.a0.mono bk).row ao.cP je rE;have ak:=(av.ns _ (br rE)).mono bk;have e':=ak.aN;have rU:=ak.a0.cap;have jg:=mj af m rE;have mI:nodeAt t.ns m=t.ns[m]:=gm rE;generalize fk:t.ns[m]=d at ak e' rU jg hZ mI;have g0:=oL P m (by omega) (out.n:Int);generalize tU:P.set m (out.n:Int)=ei at g0;have MW:ei.length=t.ns.length:=by rw[<-tU];simpa using AG
  have CV:∀ c∈ei,0<=c/\c<=rb.length:=λc an=>by
   rw[<-tU]at an;rcases yy an with an | rfl;·exact I6 c an
   ·omega
  refine bd.mk aS out.n bH rfl (show _<back.n by omega) ?_;refine aM.mk _ I7 ?_;refine bd.mk ⟨b9,0,none⟩ m rfl rfl je ?_;refine b2.iC [] (out.aq 66++(back.aq 3++[])) (P.map (Value.int .i64)) 3 rfl (by rw[nK,bI];show 0+m*1+1<=_;omega) rfl (ei.map (Value.int .i64)) (by rw[c8,e2];exact g0) ?_;refine bd.mk ls m lu rfl je ?_;refine aM.mk _ (hZ _) ?_;have sB:(out.n+1)*96<=140737488355328:=by omega
  refine a2.mk (λaa=>?_) (λaa=>?_)
  ·have kV:0<d.aN:=by have:(0:Int)<(d.aN:Int):=dw aa;omega
   refine mO.mk d.aN d.aN rfl rfl (ca _) (by show 8*d.aN<=_;omega) (by omega) ?_;refine bX.mk λacf avR avS=>?_;have bb:(rowOf [Value.int .i64 0] (d.aN*1)).length=d.aN:=by simp[vP,madeCells]
   have dL:cm (rowOf [Value.int .i64 0] (d.aN*1)) 0 (d.aw.map (.int .i64 ·))=d.aw.map (.int .i64 ·):=by unfold cm;rw[rl,iz,c8,va (by rw[bb,bI];omega),ee]
   refine bz.aoN a6 rfl (by simp) (e:=3) rfl rfl rfl (g:=acf) (n:=d.aN) (c:=d.aN) (aT:=rowOf [Value.int .i64 0] (d.aN*1)) rfl (by rw[bb];show d.aN*1<=_;omega) (sa:=d.dB) (c':=d.dp) rfl (b8:=d.aw.map (.int .i64 ·)) (by rw[bI];show _=d.aN*1;omega) (λaz=>ak.a0.CR _ az) (I0 _) [] (dE b9 ei::(out.aq 66++(back.aq 3++[]))) rfl ?_;rw[dL];refine di.inv (ι:=Nat×aY×List Int) (λy=>{ bi:=[(2,.ref 2 0),(4,.ref 4 0),(5,.val back.val),(6,.val (.slice (some ⟨b9,0,none⟩) t.n t.n)),(7,.val out.val),(8,.val (.int .i64 out.n)),(9,.val (.int .i64 m)),(10,.ref 10 0),(11,.val y.2.1.val),(24,.val back.val),(25,.val (.int .i64 back.n)),(26,.val (.int .i64 out.n)),(52,.val y.2.1.val),(53,.val (.int .i64 d.aN)),(54,.val (.int .i64 y.1))],cl:=[(2,t.cells),(4,[.slice none 0 0,.int .i64 0]),(10,d.cells)],cD:=J,c0:=y.2.1.aq 3++(dE b9 ei::(out.aq 66++(back.aq 3++[]))) }) (λy=>ace d ei y) (λy=>d.aN-y.1) ?_ ?_;·exact⟨(0,⟨some acf,d.aN,d.aN,d.aw.map (.int .i64 ·)⟩,d.aw),⟨dD _,⟨by rw[qY,bI];simp only;omega,(λh=>by cases h),λdK kq=>⟨by simp only[bI];omega,ca _,by unfold maxLen;simp only;omega,by rw[qY];exact fA (by rw[bI];simp only;omega)⟩⟩,rfl,by simp⟩,.refl,age,.cons rfl (.cons rfl (.cons rfl (.nil)))⟩
   rintro⟨k,eh,gD⟩⟨ae,kB,I8,cA⟩;simp only at ae kB I8 cA;have Tm:∀ x∈eh.aq 3,x∈eh.aq 3++(dE b9 ei::(out.aq 66++(back.aq 3++[]))):=λx ad=>hY _ ad;have Tn:dE b9 ei∈eh.aq 3++(dE b9 ei::(out.aq 66++(back.aq 3++[]))):=by simp
   have Ej:gD.length=d.aw.length:=by rw[cA,ch,bI,hx,tp];omega
   refine a2.mk (λab=>?_) (λab=>?_)
   ·have ff:k<d.aN:=by have:(k:Int)<(d.aN:Int):=dw ab;omega
    have kO:k<d.aw.length:=by omega
    have CW:k<gD.length:=by omega
    have ah:=jg _ (br kO);have vv:d.aw[k].toNat<ei.length:=by omega
    have CX:ei.getD d.aw[k].toNat 0=ei[d.aw[k].toNat]:=by simp[bA,vv]
    have To:gD[k]=d.aw[k]:=by
     have aj:gD[k]?=d.aw[k]?:=by rw[cA,m3 (by rw[bI,hx];omega),bI,hx,uu (by omega),pL,nX,qb]
     rw[dg CW,dg kO]at aj;exact fh aj
    obtain⟨gk,fu,fb⟩:=aY.ok.row (I:=J) (M:=eh.aq 3++(dE b9 ei::(out.aq 66++(back.aq 3++[])))) (e:=3) (f:=kh) (size:=1) (λ_=>rfl) (by decide) kB Tm CW;rw[To]at fb;refine bd.mk gk k fu rfl (show k<eh.n by omega) ?_;refine aM.mk _ fb ?_;refine bd.mk ⟨b9,0,none⟩ d.aw[k].toNat rfl (by omega) (by omega) ?_;refine aM.mk _ (GX Tn vv) ?_;refine bd.mk gk k fu rfl (show k<eh.n by omega) ?_;refine aY.L9 kh 1 (λ_=>rfl) (e:=3) kB CW ei[d.aw[k].toNat] rfl [] (dE b9 ei::(out.aq 66++(back.aq 3++[]))) rfl fu ?_;intro qL nw nM ob mc;refine bg.mk _ (cL (i:=k) (by omega)) ?_;refine⟨(k+1,qL,gD.set k ei[d.aw[k].toNat]),⟨⟨ff,mc,ob.trans I8,?_⟩,by simp only;omega⟩,.refl,.cons .refl (.cons .refl (.cons .refl (.cons .refl (.cons .refl (.cons .refl (.cons .refl (.cons .refl (.cons ?_ (.cons .refl (.cons .refl (.cons .refl (.cons ?_ (xH))))))))))))),.cons rfl (.cons rfl (.cons rfl (.nil)))⟩;·simp only;rw[cA,gg kO,cM,b0,hy,CX,Hj _ _ (by rw[bI,hx];omega),bI,hx,uu (by omega),pL,eV kO,Hl,dV];rfl
    ·simp only;rw[nw];exact .refl
    ·simp only;rw[nw];exact .refl
   have cI:k=d.aN:=by have:¬ (k:Int)<(d.aN:Int):=ek ab;omega
   subst cI;rw[fA (by omega),va (by omega),ee]at cA;rw[qY]at kB;refine bX.mk λacg ach aci=>?_;have bF:∃ cd:ao,cd=⟨d.k,d.cx,d.s1,d.s2,d.c1,d.t,d.lo,d.hi,eh.a.map λg=>⟨g,0,none⟩,eh.n,eh.c,gD⟩:=⟨_,rfl⟩;obtain⟨cd,bF⟩:=bF;have I9:cd.cells=[.int .u8 d.k,.int .u64 d.cx,.int .u64 d.s1,.int .u64 d.s2,.int .u64 d.c1,.string d.t,.int .i64 d.lo,.int .i64 d.hi,.slice (eh.a.map λg=>⟨g,0,none⟩) eh.n eh.c]:=by rw[bF];rfl
   refine bz.oZ a6 rfl (by simp) (e:=66) rfl rfl rfl out yI rfl (cs:=[.int .u8 d.k,.int .u64 d.cx,.int .u64 d.s1,.int .u64 d.s2,.int .u64 d.c1,.string d.t,.int .i64 d.lo,.int .i64 d.hi,.slice (eh.a.map λg=>⟨g,0,none⟩) eh.n eh.c]) rfl rfl rfl (eh.aq 3++[dE b9 ei]) (back.aq 3++[]) (by simp;rfl) (by omega) (by show(out.n+1)*96<=_;omega) ?_;intro s6 acj ack AI;refine bg.mk _ (cL (i:=out.n) (by omega)) ?_;have AJ:∀ c∈gD,0<=c/\c<=rb.length:=λc an=>by
    rw[cA]at an;obtain⟨q,aR,rfl⟩:=cN.1 an;have wy:=jg q aR;have Ja:q.toNat<ei.length:=by omega
    exact CV (ei.getD q.toNat 0) (by simp only[bA,dg Ja,kk];exact br _)
   intro fD;obtain⟨lH,hw,bm,ep⟩:=aY.Ho (I:=J) (b:=8) (e:=3) kB (by omega) (λg au=>fD.d ⟨g,.cells eh.aT.toArray 3 (0,0)⟩ (by simp[aY.aq,au])) (dE b9 ei::(s6.aq 66++(back.aq 3++[])));refine⟨(out.n+1,ei,s6,nk++[cd],lH),⟨⟨by simp only;omega,MW,?_,by simp[jm],?_,?_,λb o h=>bm _ _ (bk _ _ h),CV,?_⟩,by simp only;omega⟩,?_,jJ,.cons rfl (.cons rfl (.nil))⟩
   ·simp only;rw[hg];have:([cd].flatMap ao.cells)=cd.cells:=by simp
    rw[this,I9];exact AI
   ·simp only;rw[gg mA,rO,CU,js,Lr,yJ];show(P.set m ((nk.map ao.a1).length:Int),nk.map ao.a1++[(nodeAt t.ns m).eB ((nodeAt t.ns m).aw.map λk=>(P.set m ((nk.map ao.a1).length:Int)).getD k.toNat 0)])=_;rw[bI,jm,tU,mI,<-cA,cM,bF];rfl
   ·simp only;intro x ad;rcases cB.1 ad with ad | ad
    ·exact(AH x ad).mono bm
    ·simp only[ed]at ad;rw[ad,bF];refine⟨ak.k,ak.cx,ak.s1,ak.s2,ak.c1,ak.t,ak.lo,ak.hi,ep,λc an=>?_⟩;have:=AJ c an;exact⟨by omega,by omega⟩
   ·simp only;intro x ad;rcases cB.1 ad with ad | ad
    ·exact l2 x ad
    ·simp only[ed]at ad;rw[ad,bF];exact AJ
   ·simp only;refine .perm (M1:=eh.aq 3++(dE b9 ei::(s6.aq 66++(back.aq 3++[])))) ?_ hw;simp
  ·have kV:d.aN=0:=by have:¬ (0:Int)<(d.aN:Int):=ek aa;omega
   have aoQ:d.aw=[]:=iy (by omega);refine di.inv (ι:=Nat×aY×List Int) (λy=>{ bi:=[(2,.ref 2 0),(4,.ref 4 0),(5,.val back.val),(6,.val (.slice (some ⟨b9,0,none⟩) t.n t.n)),(7,.val out.val),(8,.val (.int .i64 out.n)),(9,.val (.int .i64 m)),(10,.ref 10 0),(11,.val y.2.1.val),(24,.val back.val),(25,.val (.int .i64 back.n)),(26,.val (.int .i64 out.n)),(52,.val y.2.1.val),(53,.val (.int .i64 d.aN)),(54,.val (.int .i64 y.1))],cl:=[(2,t.cells),(4,[.slice none 0 0,.int .i64 0]),(10,d.cells)],cD:=J,c0:=y.2.1.aq 3++(dE b9 ei::(out.aq 66++(back.aq 3++[]))) }) (λy=>ace d ei y) (λy=>d.aN-y.1) ?_ ?_;·refine⟨(0,h6,d.aw),⟨dD _,by rw[aoQ];exact lv 1,kV.symm,by simp⟩,.refl,.cons .refl (.cons .refl (.cons .refl (.cons .refl (.cons .refl (.cons .refl (.cons .refl (.cons .refl (.cons .refl (.cons .refl (.cons .refl (.cons .refl (.cons .refl (.cons ?_ (.cons .refl .nil)))))))))))))),.cons rfl (.cons rfl (.cons rfl (.nil)))⟩;simp only;rw[kV];exact .refl
   rintro⟨k,eh,gD⟩⟨ae,kB,I8,cA⟩;simp only at ae kB I8 cA;have Tm:∀ x∈eh.aq 3,x∈eh.aq 3++(dE b9 ei::(out.aq 66++(back.aq 3++[]))):=λx ad=>hY _ ad;have Tn:dE b9 ei∈eh.aq 3++(dE b9 ei::(out.aq 66++(back.aq 3++[]))):=by simp
   have Ej:gD.length=d.aw.length:=by rw[cA,ch,bI,hx,tp];omega
   refine a2.mk (λab=>?_) (λab=>?_)
   ·have ff:k<d.aN:=by have:(k:Int)<(d.aN:Int):=dw ab;omega
    have kO:k<d.aw.length:=by omega
    have CW:k<gD.length:=by omega
    have ah:=jg _ (br kO);have vv:d.aw[k].toNat<ei.length:=by omega
    have CX:ei.getD d.aw[k].toNat 0=ei[d.aw[k].toNat]:=by simp[bA,vv]
    have To:gD[k]=d.aw[k]:=by
     have aj:gD[k]?=d.aw[k]?:=by rw[cA,m3 (by rw[bI,hx];omega),bI,hx,uu (by omega),pL,nX,qb]
     rw[dg CW,dg kO]at aj;exact fh aj
    obtain⟨gk,fu,fb⟩:=aY.ok.row (I:=J) (M:=eh.aq 3++(dE b9 ei::(out.aq 66++(back.aq 3++[])))) (e:=3) (f:=kh) (size:=1) (λ_=>rfl) (by decide) kB Tm CW;rw[To]at fb;refine bd.mk gk k fu rfl (show k<eh.n by omega) ?_;refine aM.mk _ fb ?_;refine bd.mk ⟨b9,0,none⟩ d.aw[k].toNat rfl (by omega) (by omega) ?_;refine aM.mk _ (GX Tn vv) ?_;refine bd.mk gk k fu rfl (show k<eh.n by omega) ?_;refine aY.L9 kh 1 (λ_=>rfl) (e:=3) kB CW ei[d.aw[k].toNat] rfl [] (dE b9 ei::(out.aq 66++(back.aq 3++[]))) rfl fu ?_;intro qL nw nM ob mc;refine bg.mk _ (cL (i:=k) (by omega)) ?_;refine⟨(k+1,qL,gD.set k ei[d.aw[k].toNat]),⟨⟨ff,mc,ob.trans I8,?_⟩,by simp only;omega⟩,.refl,.cons .refl (.cons .refl (.cons .refl (.cons .refl (.cons .refl (.cons .refl (.cons .refl (.cons .refl (.cons ?_ (.cons .refl (.cons .refl (.cons .refl (.cons ?_ (xH))))))))))))),.cons rfl (.cons rfl (.cons rfl (.nil)))⟩;·simp only;rw[cA,gg kO,cM,b0,hy,CX,Hj _ _ (by rw[bI,hx];omega),bI,hx,uu (by omega),pL,eV kO,Hl,dV];rfl
    ·simp only;rw[nw];exact .refl
    ·simp only;rw[nw];exact .refl
   have cI:k=d.aN:=by have:¬ (k:Int)<(d.aN:Int):=ek ab;omega
   subst cI;rw[fA (by omega),va (by omega),ee]at cA;rw[qY]at kB;refine bX.mk λacg ach aci=>?_;have bF:∃ cd:ao,cd=⟨d.k,d.cx,d.s1,d.s2,d.c1,d.t,d.lo,d.hi,eh.a.map λg=>⟨g,0,none⟩,eh.n,eh.c,gD⟩:=⟨_,rfl⟩;obtain⟨cd,bF⟩:=bF;have I9:cd.cells=[.int .u8 d.k,.int .u64 d.cx,.int .u64 d.s1,.int .u64 d.s2,.int .u64 d.c1,.string d.t,.int .i64 d.lo,.int .i64 d.hi,.slice (eh.a.map λg=>⟨g,0,none⟩) eh.n eh.c]:=by rw[bF];rfl
   refine bz.oZ a6 rfl (by simp) (e:=66) rfl rfl rfl out yI rfl (cs:=[.int .u8 d.k,.int .u64 d.cx,.int .u64 d.s1,.int .u64 d.s2,.int .u64 d.c1,.string d.t,.int .i64 d.lo,.int .i64 d.hi,.slice (eh.a.map λg=>⟨g,0,none⟩) eh.n eh.c]) rfl rfl rfl (eh.aq 3++[dE b9 ei]) (back.aq 3++[]) (by simp;rfl) (by omega) (by show(out.n+1)*96<=_;omega) ?_;intro s6 acj ack AI;refine bg.mk _ (cL (i:=out.n) (by omega)) ?_;have AJ:∀ c∈gD,0<=c/\c<=rb.length:=λc an=>by
    rw[cA]at an;obtain⟨q,aR,rfl⟩:=cN.1 an;have wy:=jg q aR;have Ja:q.toNat<ei.length:=by omega
    exact CV (ei.getD q.toNat 0) (by simp only[bA,dg Ja,kk];exact br _)
   intro fD;obtain⟨lH,hw,bm,ep⟩:=aY.Ho (I:=J) (b:=8) (e:=3) kB (by omega) (λg au=>fD.d ⟨g,.cells eh.aT.toArray 3 (0,0)⟩ (by simp[aY.aq,au])) (dE b9 ei::(s6.aq 66++(back.aq 3++[])));refine⟨(out.n+1,ei,s6,nk++[cd],lH),⟨⟨by simp only;omega,MW,?_,by simp[jm],?_,?_,λb o h=>bm _ _ (bk _ _ h),CV,?_⟩,by simp only;omega⟩,?_,jJ,.cons rfl (.cons rfl (.nil))⟩
   ·simp only;rw[hg];have:([cd].flatMap ao.cells)=cd.cells:=by simp
    rw[this,I9];exact AI
   ·simp only;rw[gg mA,rO,CU,js,Lr,yJ];show(P.set m ((nk.map ao.a1).length:Int),nk.map ao.a1++[(nodeAt t.ns m).eB ((nodeAt t.ns m).aw.map λk=>(P.set m ((nk.map ao.a1).length:Int)).getD k.toNat 0)])=_;rw[bI,jm,tU,mI,<-cA,cM,bF];rfl
   ·simp only;intro x ad;rcases cB.1 ad with ad | ad
    ·exact(AH x ad).mono bm
    ·simp only[ed]at ad;rw[ad,bF];refine⟨ak.k,ak.cx,ak.s1,ak.s2,ak.c1,ak.t,ak.lo,ak.hi,ep,λc an=>?_⟩;have:=AJ c an;exact⟨by omega,by omega⟩
   ·simp only;intro x ad;rcases cB.1 ad with ad | ad
    ·exact l2 x ad
    ·simp only[ed]at ad;rw[ad,bF];exact AJ
   ·simp only;refine .perm (M1:=eh.aq 3++(dE b9 ei::(s6.aq 66++(back.aq 3++[])))) ?_ hw;simp
 have cI:out.n=rb.length:=by have:¬ (out.n:Int)<(back.n:Int):=ek h;omega
 refine bg.mk ((nk.length:Int)-1) (by show IntKind.i64.wrap ((out.n:Int)-1)=_;rw[wrap_i64 ⟨by omega,by omega⟩,jm]) ?_;intro fD;obtain⟨lH,hw,bm,ep⟩:=aY.Ho (I:=J) (b:=96) (e:=66) yI (by omega) (λg au=>fD.d ⟨g,.cells out.aT.toArray 66 (0,0)⟩ (by simp[aY.aq,au])) [];refine⟨lH,[],.sub (M1:=out.aq 66++[]) (by rw[ee];exact .cons _ (tK _ _)) hw,λb o h=>bm _ _ (bk _ _ h),rfl,⟨nk,out.a.map λg=>⟨g,0,none⟩,out.n,out.c,(nk.length:Int)-1⟩,rfl,⟨ep,λd ak=>(AH d ak).mono bm,⟨by simp only;omega,by simp only;omega⟩⟩,⟨?_,rfl⟩⟩;rw[fA (by omega)]at CU;rw[rT,nj,<-hD]at *;rw[CU]
def Tp(av:t.ok I)(af:right t=true)(aB:t.n<=1099511627776)(yH:node<t.n) :
  Spec Tryz.prog 81 [t.val,.int .i64 node] I M0 λv I' M'=>(∀ b o,I b=some o->I' b=some o)/\M'=M0/\∃ bq:bS,v=bq.val/\bq.ok I'/\LC t node bq:=by
 refine Spec.qU (Spec.frame (aoO av af aB yH)) ?_;rintro v J M⟨M',rfl,-,-,aa,rfl,bq,rfl,ab,aj⟩;exact⟨aa,rfl,bq,rfl,ab,aj⟩
def AK(aoR:Int)(d:ao):ao:=d.eB (d.aw.map (·+aoR))
def aoS{A K B:List Int}(ak:hR (A++(K++B)))(ad:x∈K):vb (A++(K++B)) x=vb K x+(A.length:Int):=by have dJ:x ∉ A:=λh=>(rX.1 ak).2.2 x h x (hY _ ad) rfl;unfold vb;rw[SC,bR dJ,SC,bN ad];omega
def aoT{MX:List Int}{k:Int}(ak:hR (MX++[k])):vb (MX++[k]) k=(MX.length:Int):=by have dJ:k ∉ MX:=λh=>(rX.1 ak).2.2 k h k (.head _) rfl;unfold vb;rw[SC,bR dJ,List.idxOf_cons_self];omega
section
end
def aoU{nm:ByteArray}{ds:List aP}{q:Nat}(h:cu nm ds 0=(q:Int)):ez nm (bD ds)=some (q:Int):=by rw[abn,h,et (by omega),b']
section
end
section
end
open Classical in
def acm{ds:List aP}{i:Nat}:i∈r' ds F ↔ i<ds.length/\kg (jE ds F) i i:=by unfold r';rw[ja,g7,Mw]
def CY:dz ax g=0 ↔ g.n≠0/\nL g.ds=true/\oQ ax g=false/\(∀ i,i<g.ds.length->nh g.ds i=true)/\∀ d∈g.ds,∀ n∈d.t.ns,n.k=3->0<=cu n.t g.ds 0:=by
 rw[<-SR];have gR:(g.ds.all λd=>d.t.ns.all (yA g.ds))=true ↔ ∀ d∈g.ds,∀ n∈d.t.ns,n.k=3->0<=cu n.t g.ds 0:=by
  simp only[fy,yA,kQ,to,ss,hV];constructor
  ·intro h d ak n aB aj;rcases h d ak n aB with h | h
   ·exact absurd aj h
   ·exact h
  ·intro h d ak n aB;by_cases aj:n.k=3
   ·exact .inr (h d ak n aB aj)
   ·exact .inl aj
 have aA:(List.range g.ds.length).all (nh g.ds)=true ↔ ∀ i,i<g.ds.length->nh g.ds i=true:=by simp[fy]
 rw[<-gR,<-aA];unfold IN;by_cases aa:g.n=0
 ·rw[e9 (by omega),b5];exact⟨(λh=>by cases h),(λh=>absurd aa h.1)⟩
 ·rw[et (by omega),b'];cases nL g.ds with
  |false=>exact⟨(λh=>by cases h),(λh=>by cases h.2.1)⟩| true=>
  cases oQ ax g with
  |true=>exact⟨(λh=>by cases h),(λh=>by cases h.2.2.1)⟩| false=>
  cases(List.range g.ds.length).all (nh g.ds)with
  |false=>exact⟨(λh=>by cases h),(λh=>by cases h.2.2.2.1)⟩| true=>
  cases(g.ds.all λd=>d.t.ns.all (yA g.ds))with
  |false=>exact⟨(λh=>by cases h),(λh=>by cases h.2.2.2.2)⟩| true=>exact⟨λ_=>⟨aa,rfl,rfl,rfl,rfl⟩,λ_=>rfl⟩
def nU(ds:List aP):cv:=⟨ds,none,ds.length,0⟩
section
variable{α:Type}{z:α}{F:ao->List α->α}
def Tq{f:ao->(Int->α)->α}:∀ (a b:List ao) (a5:List α),gI z f (a++b) a5=gI z f b (gI z f a a5)
 |[],b,a5=>rfl| d::a,b,a5=>by rw[m4,gI,gI,Tq a b]
variable(bG:∀ d l,F (d.eB l)=F d)
include bG
theorem acn{n:Nat}{a5:List α}(aB:a5.length=n):∀ (l:List ao) (p:List α),(∀ d∈l,∀ k∈d.aw,0<=k)->gI z (λd g=>F d (d.aw.map g)) (l.map λx=>x.eB (x.aw.map λk=>(n:Int)+k)) (a5++p)=a5++gI z (λd g=>F d (d.aw.map g)) l p
 |[],p,_=>rfl
 |d::l,p,h=>by
  have e:F (d.eB (d.aw.map λk=>(n:Int)+k)) ((d.aw.map λk=>(n:Int)+k).map λk=>(a5++p).getD k.toNat z)=F d (d.aw.map λk=>p.getD k.toNat z):=by rw[bG,gA];congr 1;refine fR λk ae=>?_;have az:=h d (.head _) k ae;show(a5++p).getD ((n:Int)+k).toNat z=_;rw[bA,m3 (by omega),bA];congr 2;omega
  rw[b0,gI,gI];show gI z _ _ (a5++p++[F (d.eB (d.aw.map λk=>(n:Int)+k)) ((d.aw.map λk=>(n:Int)+k).map λk=>(a5++p).getD k.toNat z)])=_;rw[e,dV];exact acn aB l _ λx ad=>h x (.tail _ ad)
def AL(z:α)(F:ao->List α->α)(l:List ao):α:=ml z (λd g=>F d (d.aw.map g)) l ((l.length:Int)-1)
theorem aco:∀ (fV:List (List ao)) (aZ:List ao×List Int) (vs:List α),(∀ l∈fV,0<l.length/\∀ d∈l,∀ k∈d.aw,0<=k) -> (aZ.2.map λk=>(gI z (λd g=>F d (d.aw.map g)) aZ.1 []).getD k.toNat z)=vs->(∀ k∈aZ.2,0<=k/\k<aZ.1.length) -> ((fV.foldl jD aZ).2.map λk=>(gI z (λd g=>F d (d.aw.map g)) (fV.foldl jD aZ).1 []).getD k.toNat z)=vs++fV.map (AL z F)
 |[],aZ,vs,_,h,_=>by simpa using h
 |l::fV,aZ,vs,ay,h,ae=>by
  obtain⟨Bj,kt⟩:=ay l (.head _);have c2:(gI z (λd g=>F d (d.aw.map g)) aZ.1 []).length=aZ.1.length:=by rw[Pj];simp
  have bu:gI z (λd g=>F d (d.aw.map g)) (jD aZ l).1 []=gI z (λd g=>F d (d.aw.map g)) aZ.1 []++gI z (λd g=>F d (d.aw.map g)) l []:=by show gI z _ (aZ.1++l.map λx=>x.eB (x.aw.map λk=>(aZ.1.length:Int)+k)) []=_;rw[Tq];have:=acn bG (z:=z) c2 l [] kt;rwa [ee]at this
  rw[js];have:=aco fV (jD aZ l) (vs++[AL z F l]) (λx ad=>ay x (.tail _ ad)) ?_ ?_;·rw[this,b0,dV];rfl
  ·rw[bu];show(aZ.2++[((aZ.1.length+l.length:Nat):Int)-1]).map _=_;rw[cM,<-h,b0,hy];congr 1
   ·refine fR λk hd=>?_;have:=ae k hd;rw[bA,rj (by rw[c2];omega),bA]
   ·congr 1;rw[bA,m3 (by rw[c2];omega),c2];unfold AL ml;rw[bA];congr 2;omega
  ·intro k hd;rcases cB.1 (show k∈aZ.2++[((aZ.1.length+l.length:Nat):Int)-1]from hd)with hd | hd
   ·have:=ae k hd;show 0<=k/\k<((aZ.1++l.map λx=>x.eB (x.aw.map λk=>(aZ.1.length:Int)+k)).length:Nat);rw[ch];omega
   ·rw[ed]at hd;show 0<=k/\k<((aZ.1++l.map λx=>x.eB (x.aw.map λk=>(aZ.1.length:Int)+k)).length:Nat);rw[ch,bI];omega
theorem aoV{d:ao}(ay:∀ l∈fV,0<l.length/\∀ d∈l,∀ k∈d.aw,0<=k):AL z F (wu d fV)=F d (fV.map (AL z F)):=by
 have h:=aco bG (z:=z) fV ([],[]) [] ay rfl (λk ae=>by cases ae);rw[iz]at h;have c2:(gI z (λd g=>F d (d.aw.map g)) (fV.foldl jD ([],[])).1 []).length=(fV.foldl jD ([],[])).1.length:=by rw[Pj];simp
 unfold AL ml wu;rw[Tq,gI,gI];show(_++[F (d.eB (fV.foldl jD ([],[])).2) ((fV.foldl jD ([],[])).2.map λk=>(gI z (λd g=>F d (d.aw.map g)) (fV.foldl jD ([],[])).1 []).getD k.toNat z)]).getD _ z=_;rw[h,bG,bA,m3 (by rw[c2];simp)];have db:((((fV.foldl jD ([],[])).1++[d.eB (fV.foldl jD ([],[])).2]).length:Int)-1).toNat-(gI z (λd g=>F d (d.aw.map g)) (fV.foldl jD ([],[])).1 []).length=0:=by rw[c2];simp
 rw[db];rfl
end
def acp{α:Type}(z:α)(F:ao->List α->α)(t:bS):α:=ml z (λd g=>F d (d.aw.map g)) t.ns t.bn
def Tr(d:ao)(l:List Int)(n:Int):fits (d.eB l) n=fits d n:=rfl
structure AM(aZ:List ao×List Int):Prop where
 fits:∀ d∈aZ.1,fits d d.aw.length=true
 aw:∀ j (h:j<aZ.1.length),∀ k∈aZ.1[j].aw,0<=k/\k<j
 diff:hR (eO aZ.1)
 all:∀ j:Nat,j<aZ.1.length->((j:Int)∈eO aZ.1 ↔ (j:Int) ∉ aZ.2)
 cw:hR aZ.2
 Jb:∀ k∈aZ.2,0<=k/\k<aZ.1.length
def MY{l:List ao}(h:∀ j (h:j<l.length),∀ k∈l[j].aw,0<=k/\k<j):∀ k∈eO l,0<=k/\k<l.length:=λk ae=>by obtain⟨d,ak,j9⟩:=hb.1 ae;obtain⟨j,ai,rfl⟩:=ka ak;have:=h j ai k j9;omega
def aoW(n:Int)(l:List ao):eO (l.map λx=>x.eB (x.aw.map λk=>n+k))=(eO l).map λk=>n+k:=by unfold eO;rw[Ax,Ay];rfl
def AM.step{aZ:List ao×List Int}(h:AM aZ){l:List ao}(ay:hG (mB l)):AM (jD aZ l):=by
 have tA:=ay.bn;have kt:=MY (l:=l) ay.aw;have Fw:=MY h.aw;have gR:eO (jD aZ l).1=eO aZ.1++(eO l).map λk=>(aZ.1.length:Int)+k:=by show eO (aZ.1++_)=_;rw[<-aoW];unfold eO;rw[hg]
 have c2:(jD aZ l).1.length=aZ.1.length+l.length:=by show(aZ.1++_).length=_;rw[ch,bI]
 have j9:(jD aZ l).2=aZ.2++[((aZ.1.length+l.length:Nat):Int)-1]:=rfl;have pz:(mB l).bn=(l.length:Int)-1:=rfl;have pB:(mB l).ns=l:=rfl;rw[pz,pB]at tA;refine⟨λd ak=>?_,λj ai k ae=>?_,?_,λj ai=>?_,?_,λk ae=>?_⟩
 ·rcases cB.1 (show d∈aZ.1++l.map (λx=>x.eB (x.aw.map λk=>(aZ.1.length:Int)+k))from ak)with ak | ak
  ·exact h.fits d ak
  ·obtain⟨x,ad,rfl⟩:=cN.1 ak;obtain⟨j,ai,rfl⟩:=ka ad;have:=ay.fits j ai;rw[Tr];show Go.V.fits l[j] (((l[j].aw.map λk=>(aZ.1.length:Int)+k).length:Nat):Int)=true;rw[bI];exact this
 ·have ai:j<(aZ.1++l.map (λx=>x.eB (x.aw.map λk=>(aZ.1.length:Int)+k))).length:=ai;have hd:k∈((aZ.1++l.map (λx=>x.eB (x.aw.map λk=>(aZ.1.length:Int)+k)))[j]'ai).aw:=ae;have nl:j<aZ.1.length+l.length:=by rw[<-c2];exact ai
  by_cases eM:j<aZ.1.length;·rw[zL eM]at hd;exact h.aw j eM k hd
  ·rw[Ev (by omega),f']at hd;obtain⟨q,aR,rfl⟩:=cN.1 (show k∈(l[j-aZ.1.length]'(by omega)).aw.map (λk=>(aZ.1.length:Int)+k)from hd);have:=ay.aw (j-aZ.1.length) (by show _<l.length;omega) q aR;omega
 ·rw[gR];refine rX.2 ⟨h.diff,Fg.2 ((show hR (eO l)from ay.diff).imp λbt e=>bt (by omega)),λx ad y aE e=>?_⟩;obtain⟨q,aR,rfl⟩:=cN.1 aE;have aa:=Fw x ad;have ab:=kt q aR;omega
 ·rw[gR,j9,cB,cB,ed,cN];rw[c2]at ai;by_cases eM:j<aZ.1.length
  ·have a4:=h.all j eM;constructor
   ·rintro(aa | ⟨q,aR,e⟩)
    ·rintro(ab | ab)
     ·exact a4.1 aa ab
     ·omega
    ·have:=kt q aR;omega
   ·intro aa;exact .inl (a4.2 λab=>aa (.inl ab))
  ·have a4:=ay.all (j-aZ.1.length) (by show _<l.length;omega);rw[pz,pB]at a4;constructor
   ·rintro(aa | ⟨q,aR,e⟩)
    ·have:=Fw _ aa;omega
    ·rintro(ab | ab)
     ·have:=h.Jb _ ab;omega
     ·have a7:q=((j-aZ.1.length:Nat):Int):=by omega
      rw[a7]at aR;exact a4.1 aR (by omega)
   ·intro aa;refine .inr ⟨((j-aZ.1.length:Nat):Int),a4.2 λe=>aa (.inr (by omega)),by omega⟩
 ·rw[j9];refine rX.2 ⟨h.cw,by simp,λx ad y aE e=>?_⟩;rw[ed]at aE;have:=h.Jb x ad;omega
 ·rw[j9]at ae;rw[c2];rcases cB.1 ae with ae | ae
  ·have:=h.Jb k ae;omega
  ·rw[ed]at ae;omega
def AM.acq:∀ (fV:List (List ao)) (aZ:List ao×List Int),AM aZ->(∀ l∈fV,hG (mB l))->AM (fV.foldl jD aZ)/\(fV.foldl jD aZ).2.length=aZ.2.length+fV.length
 |[],aZ,h,_=>⟨h,rfl⟩| l::fV,aZ,h,ay=>by obtain⟨aa,ab⟩:=AM.acq fV (jD aZ l) (h.step (ay l (.head _))) λx ad=>ay x (.tail _ ad);refine⟨aa,?_⟩;rw[js,ab];show(aZ.2++[_]).length+_=_;simp;omega
def aoX{d:ao}(ay:∀ l∈fV,hG (mB l))(aA:fits d fV.length=true):hG (mB (wu d fV)):=by
 obtain⟨h,cA⟩:=AM.acq fV ([],[]) ⟨(λd ak=>by cases ak),(λj h=>absurd h (nT _)),.nil,(λj h=>absurd h (nT _)),.nil,(λk ae=>by cases ae)⟩ ay;have Fw:=MY h.aw;unfold wu;generalize fV.foldl jD ([],[])=aZ at h cA Fw;have gR:eO (aZ.1++[d.eB aZ.2])=eO aZ.1++aZ.2:=by unfold eO;rw[hg];simp[ao.eB]
 have c2:(aZ.1++[d.eB aZ.2]).length=aZ.1.length+1:=by simp
 refine⟨?_,λj ai=>?_,λj ai k ae=>?_,?_,λj ai=>?_⟩
 ·show 0<=(((aZ.1++[d.eB aZ.2]).length:Nat):Int)-1/\(((aZ.1++[d.eB aZ.2]).length:Nat):Int)-1<((aZ.1++[d.eB aZ.2]).length:Nat);omega
 ·have ai:j<(aZ.1++[d.eB aZ.2]).length:=ai;show fits ((aZ.1++[d.eB aZ.2])[j]'ai) ((((aZ.1++[d.eB aZ.2])[j]'ai).aw.length:Nat):Int)=true;rcases cB.1 (br ai)with hm | hm
  ·exact h.fits _ hm
  ·rw[ed.1 hm,Tr];show fits d (aZ.2.length:Nat)=true;rw[cA];simpa using aA
 ·have ai:j<(aZ.1++[d.eB aZ.2]).length:=ai;have ae:k∈((aZ.1++[d.eB aZ.2])[j]'ai).aw:=ae;by_cases eM:j<aZ.1.length
  ·rw[zL eM]at ae;exact h.aw j eM k ae
  ·have ix:j<(aZ.1++[d.eB aZ.2]).length:=ai;have e:j=aZ.1.length:=by omega
   subst e;rw[Ev (by omega)]at ae;have ae:k∈aZ.2:=by simpa[ao.eB]using ae
   have:=h.Jb k ae;omega
 ·show hR (eO (aZ.1++[d.eB aZ.2]));rw[gR];refine rX.2 ⟨h.diff,h.cw,λx ad y aE e=>?_⟩;subst e;have aa:=Fw x ad;obtain⟨q,rfl⟩:=eH aa.1;exact(h.all q (by omega)).1 ad aE
 ·show(j:Int)∈eO (aZ.1++[d.eB aZ.2]) ↔ (j:Int)≠(((aZ.1++[d.eB aZ.2]).length:Nat):Int)-1;have ai:j<(aZ.1++[d.eB aZ.2]).length:=ai;rw[gR,cB,c2];by_cases eM:j<aZ.1.length
  ·have a4:=h.all j eM;constructor
   ·intro _;omega
   ·intro _;by_cases hm:(j:Int)∈aZ.2
    ·exact .inr hm
    ·exact .inl (a4.2 hm)
  ·constructor
   ·rintro(aa | aa)
    ·have:=Fw _ aa;omega
    ·have:=h.Jb _ aa;omega
   ·intro bt;omega
def acr:∀ (fV:List (List ao)) (aZ:List ao×List Int),(fV.foldl jD aZ).1.length=aZ.1.length+(fV.map List.length).sum
 |[],aZ=>by simp
 |l::fV,aZ=>by rw[js,acr fV];show(aZ.1++_).length+_=_;rw[ch,bI,b0,h4];omega
def aoY(d:ao)(fV:List (List ao)):(wu d fV).length=(fV.map List.length).sum+1:=by unfold wu;rw[ch,acr];simp
def MZ{α:Type}{f g:α->Nat}:∀ {l:List α},(∀ x∈l,f x<=g x)->(l.map f).sum<=(l.map g).sum
 |[],_=>ca _| x::l,h=>by have aa:=h x (.head _);have ab:=MZ (l:=l) λy aE=>h y (.tail _ aE);simp only[b0,h4];omega
def acs{x:Nat}:∀ {l:List Nat},x∈l->x<=l.sum
 |y::l,h=>by
  rw[h4];rcases ec.1 h with rfl | h;·omega
  ·have:=acs h;omega
abbrev vw:=(aW×List Nat)×Bool
def aoZ:vw:=((bZ,[]),false)
def nV(pl:List (ByteArray×Int))(F:List aW)(t:bS):vw:=acp aoZ (lG pl F) t
def acu(pl:List (ByteArray×Int))(F:List aW)(t:bS):nV pl F t=o7 pl F t.ns t.bn:=rfl
def ao0{pl:List (ByteArray×Int)}(af:right t=true):(nV pl F t).1.1=(en pl F t.ns []).getD t.bn.toNat bZ:=by obtain⟨k4,iT⟩:=qw af;obtain⟨r,fJ⟩:=eH k4;rw[acu,fJ,ML af (r+1) r (by omega) (by omega),QT]
def acv{a:Nat}{ly:List Nat}:∀ {xs ys:List (aW×List Nat)},xs.length=ys.length->(∀ i (h:i<xs.length) (bc:i<ys.length),xs[i].1=ys[i].1/\∀ k∈xs[i].2,k∈ys[i].2\/(a∈ys[i].2/\k∈ly))->∀ k∈jQ xs,k∈jQ ys\/(a∈jQ ys/\k∈ly)
 |[],[],_,_,k,h=>by cases h
 |x::xs,y::ys,ay,h,k,ae=>by
  have az:=h 0 (by simp) (by simp);simp only[uE]at az;rw[jQ]at ae |-;rcases cB.1 ae with ae | ae
  ·rcases az.2 k ae with aa | ⟨aa,ab⟩
   ·exact .inl (hY _ aa)
   ·exact .inr ⟨hY _ aa,ab⟩
  ·rw[az.1]at ae;cases bb:y.1.z with
   |false=>rw[bb]at ae;cases ae
   |true=>
    rw[bb]at ae;rcases acv (xs:=xs) (ys:=ys) (by simpa using ay) (λi g dK=>by
     have aa:=h (i+1) (by simp;omega) (by simp;omega);simpa only[Gu]using aa) k ae with aa | ⟨aa,ab⟩
    ·exact .inl (qg _ aa)
    ·exact .inr ⟨qg _ aa,ab⟩
structure w4(a:Nat)(ly:List Nat)(r1:Bool)(x y:vw):Prop where
 bi:x.1.1=y.1.1
 Ts:∀ k∈x.1.2,k∈y.1.2\/(a∈y.1.2/\k∈ly)
 e8:x.2=true->y.2=true\/r1=true
def ao1{a b:Bool}(h:(a||b)=true):a=true\/b=true:=by cases a<;>simp_all
end Go.V
