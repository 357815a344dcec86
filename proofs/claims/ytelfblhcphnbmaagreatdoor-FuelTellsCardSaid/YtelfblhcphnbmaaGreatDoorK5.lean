/- Part 5 of what the proofs of this seat share: the executor, data in memory, walks.
-/
import Derived.Test.YtelfblhcphnbmaaGreatDoorK4
import Derived.Test.YtelfblhcphnbmaaGreatDoorK3
import Derived.Lib.SliceRun
set_option linter.all false
namespace Go.V
open Go
def l':=@List.mem_cons_of_mem
def mb:=@List.getElem_range
def ss:=@List.append_of_mem
def Bq:=@List.filter_append
def xd:=@Nat.sub_zero
def MI:=@Nat.testBit_two_pow_sub_one
def zh:=@Nat.sub_self
def xe:=@Nat.add_eq
def Br:=@Nat.mul_eq
def Bs:=@Nat.sub_eq
def MJ:=@List.range_add
variable{D bf H5:bu}{u w kl:Value}{x y oJ s os lo hi mx:Operand}{F dI:Fr}{E:Env}{M:List aC}{a:Loc}{cd cp eD:IntKind}{t j sz off fB g clock bN cg:Nat}{us cs xs cur tV news:List Value}{K:Value->Prop}{O:Prop}{α R:Type}{b:Bool}{c9 ut:Option dH}{P:Program}{aF lW:dH}{r dst:Option Nat}{args:Array Operand}{ts:Array Nat}{eB:a4 fj}{b7:fj}{mD:TypeDesc}{base ad:Option Addr}{call:ak->List ak->a8->Option (ak×a8)}{ops:List Oper}{β:Nat->Nat}{Q:Exit->Act->World->Prop}{Y:fC}{I:aN}{row:List (Nat×Nat)}
def fs(D:bu)(x:cW)(v:ak):Prop:=(∃ u,x=.val u/\aM D v u)\/∃ q,v=.b q/\x=.lit q
def fs.val{v:ak}(h:aM D v u):fs D (.val u) v:=.inl ⟨u,rfl,h⟩
def fs.mono(cH:D.le bf){x:cW}{v:ak}(h:fs D x v):fs bf x v:=by
 rcases h with⟨u,rfl,h⟩ | ⟨q,rfl,rfl⟩
 ·exact .val (h.mono cH)
 ·exact .inr ⟨q,rfl,rfl⟩
def oK(D:bu)(F:Fr)(aj:a4 ak):Prop:=∀ t v,aj.get t=some v->fs D (F t) v
def hL(D:bu)(F:Fr)(aj:a4 ak)(xs:List Operand):Prop:=∀ x∈xs,∀ v,cI aj x=some v->fs D (cR F x) v
def oK.op{aj:a4 ak}(h:oK D F aj)(xs:List Operand):hL D F aj xs:=λx _ v ah=>by
 cases x with
 |tmp t=>exact h t v ah
 |const c=>
  have kO:A9 c=some v:=ah;cases c with
  |bool q=>
   have:v=.b q:=by simp[A9,D5]at kO;exact kO.symm
   exact .inr ⟨q,this,rfl⟩
  |_=>exact .val (.of kO)
 |global g=>
  have:v=.g g 0:=by simpa[cI]using ah.symm
  subst this;exact .val (by simp[aM])
 |func f=>
  have:v=.f f [] []:=by simpa[cI]using ah.symm
  subst this;exact .val (by simp only[aM];exact⟨[],[],.nil,.nil,rfl⟩)
section
variable{D:bu}{F:Fr}{aj:a4 ak}{xs:List Operand}
def fs.dh{v:ak}(h:fs D (cR F x) v):∃ u,bm F x=.val u/\aM D v u:=by
 unfold bm Go.V.dh;rcases h with⟨u,h,ah⟩ | ⟨q,rfl,h⟩
 ·rw[h];exact⟨u,rfl,ah⟩
 ·rw[h];exact⟨.bool q,rfl,by simp[aM]⟩
def fs.tW{x:cW}{v:ak}(h:fs D x v)(ah:∀ q,v≠.b q):∃ u,x=.val u/\aM D v u:=by
 rcases h with h | ⟨q,h,_⟩
 ·exact h
 ·exact(ah q h).elim
def hL.bm(h:hL D F aj xs)(ab:x∈xs){v:ak}(ah:cI aj x=some v):∃ u,bm F x=.val u/\aM D v u:=(h x ab v ah).dh
def hL.kL(h:hL D F aj xs):∀ {l:List Operand} {vs:List ak},(∀ x∈l,x∈xs)->l9 aj l=some vs->∃ us,kL F l=some us/\bq D vs us
 |[],vs,_,ah=>by simp only[l9]at ah;cases ah;exact⟨[],rfl,.nil⟩
 |x::l,vs,ay,ah=>by
  simp only[l9]at ah;split at ah;·rename_i v vs U aa;cases ah;obtain⟨u,ax,aR⟩:=h.bm (ay x (by simp)) U;obtain⟨us,az,aV⟩:=hL.kL h (λy aG=>ay y (by simp[aG])) aa;refine⟨u::us,?_,.cons aR aV⟩;show il (cR F) (x::l)=_;rw[il];have dy:dh (cR F) x=.val u:=ax;have dZ:il (cR F) l=some us:=az;rw[dy,dZ]
  ·cases ah
def hL.parts(h:hL D F aj xs):∀ {l:List (Nat×Operand)} {vs:List (Nat×ak)},(∀ x∈l.map (·.2),x∈xs)->Bd aj l=some vs->∃ us,xR F l=some us/\Ej D vs us
 |[],vs,_,ah=>by simp only[Bd]at ah;cases ah;exact⟨[],rfl,.nil⟩
 |(i,x)::l,vs,ay,ah=>by
  simp only[Bd]at ah;split at ah;·rename_i v vs U aa;cases ah;obtain⟨u,ax,aR⟩:=h.bm (ay x (by simp)) U;obtain⟨us,az,aV⟩:=hL.parts h (λy aG=>ay y (by simp only[dA,dE];exact .inr aG)) aa;refine⟨(i,u)::us,?_,.cons aR aV⟩;show qX (cR F) ((i,x)::l)=_;rw[qX];have dy:dh (cR F) x=.val u:=ax;have dZ:qX (cR F) l=some us:=az;rw[dy,dZ]
  ·cases ah
end
inductive oL(D:bu):List (ak×ak)->List MapEntry->Prop
 |nil:oL D [] []| cons {k v es e l} (ae:aM D k e.key) (ah:aM D v e.val) (t:oL D es l):oL D ((k,v)::es) (e::l)
def g1(n:Nat):Code->Bool
 | .seq x y=>g1 n x&&g1 n y| .block _ c=>g1 n c| .cond _ x y=>g1 n x&&g1 n y| .loop c=>g1 n c| .scope c=>g1 n c| .region _ ops _=>Aj n ops| .rangeFunc _ ps eC body=>g1 n eC&&(g1 n body&&ps.toList.all λt=>Nat.blt t n)| _=>true
structure Ek(D:bu)(busy:Bool)(n:Nat)(aj:a4 ak)(ps:List Nat)(eC body:Code)(L:Loop):Prop where
 aB:L.state=bif busy then .busy else .ready
 od:L.pending=none
 sz:L.tmps.size=n
 aj:∀ t v,aj.get t=some v->aM D v (L.tmps.getD t undef)
 ps:L.params.toList=ps
 eC:L.assign=eC
 body:L.body=body
 yt:g1 n L.assign=true
 mG:g1 n L.body=true
 op:∀ t∈L.params.toList,t<n
inductive jT(D:bu)(E:Env)(M:List aC)(a:Loc):fj->Prop
 |cells{cs:a4 ak}{T eT:Nat}(arr:Array Value)(ap:a.o=0)(a7:(⟨a.b,.cells arr T (0,0)⟩:aC)∈M)(ay:a.o+eT<=arr.size)(aA:∀ i v,i<eT->cs.get i=some v->∃ x,arr[a.o+i]?=some x/\aM D v x)(ae:∀ i,E T=some i->arr.size=a.o+a.c*i.size)(hm:a.c<=maxLen):jT D E M a (.cells cs T eT)| map {es:List (ak×ak)} (l:List MapEntry) (clock:Nat) (a7:(⟨a.b,.map l.toArray clock⟩:aC)∈M) (he:oL D es l):jT D E M a (.map es)| loop {busy n aj ps eC body} (L:Loop) (a7:(⟨a.b,.loop L⟩:aC)∈M) (b1:Ek D busy n aj ps eC body L):jT D E M a (.loop busy n aj ps eC body)| done {c n aj ps eC body} (L:Loop) (a7:(⟨a.b,.loop L⟩:aC)∈M) (ao:L.state=.done) (aO:L.pending=some c):jT D E M a (.done c n aj ps eC body)
def oL.mono(cH:D.le bf){es:List (ak×ak)}{l:List MapEntry}(h:oL D es l):oL bf es l:=by
 induction h with
 |nil=>exact .nil| cons ae ah t a2=>exact .cons (ae.mono cH) (ah.mono cH) a2
def jT.mono{M':List aC}(cH:D.le bf)(a7:∀ x∈M,x.num=a.b->x∈M'){e:fj}(h:jT D E M a e):jT bf E M' a e:=by
 cases h with
 |cells arr aq U aa ag aK bg=>exact .cells arr aq (a7 _ U rfl) aa (λi v hi ar=>by obtain⟨x,aR,aV⟩:=ag i v hi ar;exact⟨x,aR,aV.mono cH⟩) aK bg| map l clock U aa=>exact .map l clock (a7 _ U rfl) (aa.mono cH)| loop L U aa=>exact .loop L (a7 _ U rfl) { aa with aj:=λt v au=>(aa.aj t v au).mono cH }| done L U aa ag=>exact .done L (a7 _ U rfl) aa ag
def El(G:GT)(I:aN):Prop:=∀ g cs,G g=some cs->∃ (arr:Array Value) (T:Nat) (f:Nat×Nat),I g=some (.cells arr T f)/\∀ i v,cs.get i=some v->∃ x,arr[i]?=some x/\∀ D,aM D v x
structure cE(Y:fC)(D:bu)(m:a8)(I:aN)(M:List aC):Prop where
 hy:∀ id e a,m.t.get id=some e->D id=some a->jT D Y.E M a e
 inj:∀ id hh e a0 a bF,m.t.get id=some e->m.t.get hh=some a0->D id=some a->D hh=some bF->a.b=bF.b->id=hh
 h':∀ id a,D id=some a->id<m.n
 oI:El Y.G I
section
variable{Y:fC}{D:bu}{m:a8}{I:aN}{M:List aC}{R:Type}
def xf(h:cE Y D m I M){x:ak}(ab:aM D x u){n:Nat}{K:List ak->Option R}{r:R}(an:tP Y.G m.t x n K=some r) :
  ∃ ad l vs,u=.pointer (some ad)/\bE I M ad n vs/\bq D l vs/\K l=some r:=by
 have key:∀ (arr:Array Value) (base off:Nat) (l:List ak),l.length=n->base+off+n<=arr.size->(∀ i,i<n->∀ v,l[i]?=some v->∃ x,arr[base+off+i]?=some x/\aM D v x) ->
   ((arr.toList.drop (base+off)).take n).length=n/\bq D l ((arr.toList.drop (base+off)).take n):=by
  intro arr base off l ay cm ar;have hlen:((arr.toList.drop (base+off)).take n).length=n:=by simp;omega
  refine⟨hlen,bq.ME (by rw[hlen,ay]) λi v hi=>?_⟩;have e8:i<n:=by rw[<-ay];exact(ij.1 hi).1
  obtain⟨x,U,aa⟩:=ar i e8 v hi;refine⟨x,?_,aa⟩;rw[kK,dv e8,pX];simpa using U
 unfold tP at an;split at an
 ·rename_i id off;split at an
  ·rename_i cs T eT ar;cases af:Nat.ble (Nat.add off n) eT with
   |false=>rw[af]at an;cases an
   |true=>
    rw[af]at an;have ha:off+n<=eT:=bB af;simp only[ba]at an;obtain⟨l,U,aa,ag⟩:=a4.Bn cs n off K r an;obtain⟨a,aD,hu⟩:=ab.ptr;have he:=h.hy _ _ _ ar aD;obtain⟨arr,-,a7,ay,aA,-,-⟩:=he;obtain⟨cM,cp⟩:=key arr a.o off l U (by omega) λi hi v ah=>by have:=aA (off+i) v (by omega) (by rw[aa i hi,ah]);rw[<-mm]at this;exact this
    exact⟨_,l,_,hu,⟨rfl,arr,T,(0,0),.inr ⟨_,a7,rfl,rfl⟩,rfl,cM⟩,cp,ag⟩
  ·cases an
 ·rename_i g off;split at an
  ·rename_i cs ar;obtain⟨l,U,aa,ag⟩:=a4.Bn cs n off K r an;obtain⟨arr,T,f,a9,aA⟩:=h.oI _ _ ar;have hu:=ab.oI;have eP:∀ i,i<n->∀ v,l[i]?=some v->∃ x,arr[0+off+i]?=some x/\aM D v x:=λi hi v ah=>by obtain⟨x,aR,aV⟩:=aA (off+i) v (by rw[aa i hi,ah]);exact⟨x,by simpa using aR,aV D⟩
   by_cases av:n=0;·subst av;have:l=[]:=lV U;subst this;exact⟨_,[],[],hu,⟨rfl,arr,T,f,.inl a9,by simp,rfl⟩,.nil,ag⟩
   ·have cm:0+off+n<=arr.size:=by
     have aL:n-1<l.length:=by omega
     obtain⟨x,aR,_⟩:=eP (n-1) (by omega) l[n-1] (gu aL);have:=(kg.1 aR).1;omega
    obtain⟨cM,cp⟩:=key arr 0 off l U cm eP;simp only[dK]at cM cp;exact⟨_,l,_,hu,⟨rfl,arr,T,f,.inl a9,rfl,cM⟩,cp,ag⟩
  ·cases an
 ·cases an
end
def acP{k:IntKind}(h:IntKind.kN k cd=true):k=cd:=IntKind.Ad h
def H6(l m:List UInt8):decide ((⟨l.toArray⟩:ByteArray)=⟨m.toArray⟩)=decide (l=m):=by
 simp only[AF];constructor
 ·intro h;simpa using h
 ·rintro rfl;rfl
def acQ(a b:ByteArray):(a == b)=decide (a=b):=by
 rw[n5];simp only[ft];constructor
 ·intro h
  first | exact eq_of_beq h | exact oZ (eq_of_beq (a:=a.data) (b:=b.data) h)
 ·rintro rfl
  first | exact z8 _ | exact z8 a.data
section
variable{P:Program}{E:Env}{D:bu}
def H7(aH:cB P E){o:Nat}{l:List ak}{x:ak}(h:Bc E t o l=some x)(ay:bq D l us):∃ u,aM D x u/\∀ w,(part t us.toArray o).run P w=.ok u w:=by
 unfold Bc at h;obtain⟨i,U,h⟩:=ch h;obtain⟨aq,h⟩:=w9 h;have kr:i.size≠0:=λe=>by rw[e]at aq;cases aq
 obtain⟨r,aa,h⟩:=ch h;obtain⟨ax,az⟩:=TK aa;rw[HY]at ax;have hlen:=ay.len;subst ax;refine⟨_,H3 h ((ay.drop o).take _),λw=>?_⟩;have:=JF (aH _ _ U) (cs:=us.toArray) (off:=o) (by rw[nh,wh]at az;simp;omega) w;simpa using this
def MK{F:Nat->ak->ak->Option Bool}{l m:List ak}{α β:Type}{pl:α->Nat×Nat}{g:α->β->Sem (ForInStep β)}{eh s1:β}{w:World}:∀ (L:List α) {b:Bool},D6 F E l m (L.map pl)=some b -> (∀ a∈L,∀ x y c,Bc E (pl a).1 (pl a).2 l=some x->Bc E (pl a).1 (pl a).2 m=some y->F (pl a).1 x y=some c->(g a eh).run P w=.ok (if c then .yield eh else .done s1) w) -> (forIn L eh g).run P w=.ok (if b then eh else s1) w
 |[],b,h,_=>by cases h;simp[cy]
 |a::L,b,h,ar=>by
  simp only[dA]at h;unfold D6 at h;obtain⟨x,U,h⟩:=ch h;obtain⟨y,aa,h⟩:=ch h;obtain⟨c,ag,h⟩:=ch h;simp only[J6,bM];rw[ar a (by simp) x y c U aa ag];rw[jw]at h;cases c with
  |true=>simp only[o1,bx];exact MK L h λbF aD=>ar bF (by simp[aD])
  |false=>cases h;simp[bx,cy]
def ML(aH:cB P E):∀ (d:Nat) {t:Nat} {x y:ak} {b:Bool} {u v:Value},D7 P E d t x y=some b->aM D x u->aM D y v->∀ n,d<=n->∀ w,(Op.equalIn n t u v).run P w=.ok b w
 |0,t,x,y,b,u,v,h,ab,aG,n,av,w=>by cases h
 |d+1,t,x,y,b,u,v,h,ab,aG,0,av,w=>by omega
 |d+1,t,x,y,b,u,v,h,ab,aG,n+1,av,w=>by
  unfold D7 at h;obtain⟨i,hi,h⟩:=ch h;obtain⟨oo,e3,lS⟩:=(aH _ _ hi).e1;rw[Op.equalIn];simp only[bM,run_underlying e3,bx];split at h
  ·rename_i a bF ao _;cases h;have aR:oo=.bool:=by cases oo<;>simp_all[eW]
   subst aR;rw[ab.bool,aG.bool];rfl
  ·rename_i cd k a cp bF ao _;obtain⟨ax,h⟩:=fS h;cases h;have aR:oo=.int cd:=by cases oo<;>simp_all[eW]
   subst aR;rw[ab.int,aG.int];rw[acP ax];have af:(a == bF)=tM a bF:=by
    rw[Bo];by_cases e:a=bF;·subst e;simp
    ·simp[e]
   simp[af]
  ·rename_i a bF ao _;cases h;have aR:oo=.string:=by cases oo<;>simp_all[eW]
   subst aR;rw[ab.str,aG.str];show Result.ok _ _=_;rw[Bp,<-H6];congr 1;exact acQ _ _
  ·rename_i bT l m ao _;obtain⟨ax,h⟩:=fS h;unfold S3 at ax;rw[e3]at ax;cases oo with
   |struct fields=>
    simp only[bL,n4,gq,ft]at ax;obtain⟨ax,az⟩:=ax;rw[ao]at lS;simp only[eW,Cj.struct.injEq]at lS;subst lS;obtain⟨us,U,rfl⟩:=ab.agg;obtain⟨ws,aa,rfl⟩:=aG.agg;simp only[bM,run_program,bx,ax,iP,jC];rw[<-Array.forIn_toList];rw[MK (P:=P) (s1:=⟨some false,⟨⟩⟩) fields.toList h (λf aw x y c MM AS aA=>by
     obtain⟨p,cM,cp⟩:=H7 aH MM U;obtain⟨q,eD,hd⟩:=H7 aH AS aa;have aE:=ML aH d aA cM eD n (by omega) w;simp only[az f aw,o1,ne_eq,not_false_eq_true,bM,cp,hd,bx,aE];cases c<;>simp[cy])]
    cases b<;>simp[bx,cy]
   |_=>cases ax
  ·rename_i len e l m ao _;obtain⟨aF,gX,h⟩:=ch h;have aR:oo=.array len e:=by cases oo<;>simp_all[eW]
   subst aR;obtain⟨us,U,rfl⟩:=ab.agg;obtain⟨ws,aa,rfl⟩:=aG.agg;simp only[bM,(aH _ _ gX).run_sizeOf,bx,J1];have an:List.range' 0 ([:len]:Std.Legacy.Range).size=List.range len:=by simp[Std.Legacy.Range.size,Jp]
   rw[an];rw[MK (P:=P) (s1:=⟨some false,⟨⟩⟩) (List.range len) h (λf aw x y c MM AS aA=>by
    obtain⟨p,cM,cp⟩:=H7 aH MM U;obtain⟨q,eD,hd⟩:=H7 aH AS aa;have aE:=ML aH d aA cM eD n (by omega) w;simp only[bM,cp,hd,bx,aE];cases c<;>simp[cy])]
   cases b<;>simp[bx,cy]
  ·cases h
end
section
variable{X:cx}{D:bu}
def acR(aH:cB X.P X.E){op:BinOp}{l m:List ak}{v:ak}{ws:List Value}(h:L4 X.P X.E op t l m=some v)(ay:bq D l us)(hm:bq D m ws)(ae:∀ u,aM D v u->K u) :
  cu X.P op t x y (.val (.agg us.toArray)) (.val (.agg ws.toArray)) K O:=by
 unfold L4 at h;obtain⟨ar,h⟩:=w9 h;obtain⟨b,U,h⟩:=ch h;have aE:=ML (D:=D) aH 8 U (u:=.agg us.toArray) (v:=.agg ws.toArray) (by simp only[aM];exact⟨us,ay,rfl⟩) (by simp only[aM];exact⟨ws,hm,rfl⟩) Op.maxDepth (by decide);split at h
 ·cases h;refine .mk _ _ _ rfl rfl (λw=>?_) (ae _ (by simp only[aM];rfl));simp only[bM,run_eqGuard_agg (hm:=ar),bx,binOp,Op.equal,aE,cy]
 ·cases h;refine .mk _ _ _ rfl rfl (λw=>?_) (ae _ (by simp only[aM];rfl));simp only[bM,run_eqGuard_agg (hm:=ar),bx,binOp,Op.equal,aE,cy]
 ·cases h
end
abbrev df(X:cx)(G:GT)(pr:j5):fC:=⟨X.P,X.E,G,pr⟩
section
variable{X:cx}{G:GT}{pr:j5}{D:bu}{m:a8}{F:Fr}{aj:a4 ak}{C:c7}{I:aN}{M:List aC}{V:cW->Prop}{O:Prop}
def mV{a b:α}(h:some a=some b):a=b:=by cases h;rfl
def acS{op:BinOp}{k:IntKind}{a b:Int}{v:ak}(h:L1 op k cd a b=some v)(ae:∀ u,aM D v u->K u):jZ op c9 (.val (.int k a)) (.val (.int cd b)) K O:=by
 have mk:∀ {q:ak} {u:Value},some q=some v->aM D q u->K u:=λe hu=>ae _ (mV e ▸ hu);unfold L1 at h;split at h
 ·split at h
  ·rename_i j;refine⟨j,rfl,⟨_,rfl,mk h ?_⟩⟩;simp only[aM];rw[xa,acM,jw,TI]
  ·cases h
 ·split at h
  ·rename_i j;refine⟨j,rfl,mk h ?_⟩;simp only[aM];rw[acN,jw,TI]
  ·cases h
 all_goals obtain⟨aE,h⟩:=fS h
 all_goals simp only[jZ,aE,ba]
 ·exact⟨_,rfl,mk h (by simp only[aM];rw[xa,acH])⟩
 ·exact⟨_,rfl,mk h (by simp only[aM];rw[xa,acI])⟩
 ·exact⟨_,rfl,mk h (by simp only[aM];rw[xa,acJ])⟩
 ·obtain⟨aq,h⟩:=w9 h;refine⟨λe=>?_,_,rfl,mk h (by simp only[aM];rw[xa,acK])⟩;rw[Bo,e]at aq;simp at aq
 ·obtain⟨aq,h⟩:=w9 h;refine⟨λe=>?_,mk h (by simp only[aM];rw[acL])⟩;rw[Bo,e]at aq;simp at aq
 ·obtain⟨r,an,h⟩:=ch h;rw[HW an];exact mk h (by simp only[aM])
 ·obtain⟨r,an,h⟩:=ch h;rw[HW an];exact mk h (by simp only[aM])
 ·obtain⟨r,an,h⟩:=ch h;rw[HW an];exact mk h (by simp only[aM])
 ·obtain⟨r,an,h⟩:=ch h;rw[HW an];exact mk h (by simp only[aM])
 ·obtain⟨r,an,h⟩:=ch h;rw[acG]at an;have ah:v=.b r:=(mV h).symm;subst ah;have jt:K (.bool r):=ae _ (by simp only[aM]);cases op<;>first
   |contradiction|(rw[an];exact jt)
def MN(b:Bool):bH b false true=!b:=by cases b<;>rfl
def acT{op:BinOp}{a b:List UInt8}{v:ak}(h:L2 op a b=some v)(ae:∀ u,aM D v u->K u) :
  jZ op c9 (.val (.string ⟨a.toArray⟩)) (.val (.string ⟨b.toArray⟩)) K (cu P op t x y (.val (.string ⟨a.toArray⟩)) (.val (.string ⟨b.toArray⟩)) K O):=by
 unfold L2 at h;split at h
 ·cases h;refine ae _ ?_;simp only[aM];rw[H6,Bp]
 ·cases h;refine ae _ ?_;simp only[aM];rw[H6,Bp,MN]
 ·obtain⟨ay,h⟩:=fS h;cases h;have o7:=bB ay;refine cu.concat (by simpa[ByteArray.size]using o7) (ae _ ?_);simp only[aM];congr 1
 ·cases h
def acU{op:BinOp}{a:Bool}{v:ak}(h:L3 op c9 a b=some v)(ae:∀ u,aM D v u->K u):jZ op c9 (.val (.bool a)) (.val (.bool b)) K O:=by
 unfold L3 at h;split at h
 ·split at h
  ·cases h;exact ae _ (by simp only[aM])
  ·cases h;exact ae _ (by simp only[aM])
  ·cases h
 ·cases h
def acV{x:ak}(h:L5 x=some b)(hu:aM D x u):∃ a n c,u=.slice a n c/\b=a.isNone:=by
 cases x<;>simp only[L5,ki,reduceCtorEq]at h<;>subst h<;>simp only[aM]at hu
 ·exact⟨_,_,_,hu,rfl⟩
 ·obtain⟨a,-,hu⟩:=hu;exact⟨_,_,_,hu,rfl⟩
 ·obtain⟨a,-,-,hu⟩:=hu;exact⟨_,_,_,hu,rfl⟩
 ·exact⟨_,_,_,hu,rfl⟩
 ·obtain⟨a,c,hu⟩:=hu;exact⟨_,_,_,hu,rfl⟩
def acW{x:ak}(h:L6 x=some b)(hu:aM D x u):∃ p,u=.pointer p/\b=p.isNone:=by
 cases x<;>simp only[L6,ki,reduceCtorEq]at h<;>subst h<;>simp only[aM]at hu
 ·exact⟨_,hu,rfl⟩
 ·obtain⟨a,-,hu⟩:=hu;exact⟨_,hu,rfl⟩
 ·exact⟨_,hu,rfl⟩
def acX{e:Nat}(h:P.underlying t=some (.slice e))(a:Option Addr)(n c:Nat)(w:World):(Op.equal t (.slice a n c) (.slice none 0 0)).run P w=.ok a.isNone w:=by
 have key:∀ d,(Op.equalIn (d+1) t (.slice a n c) (.slice none 0 0)).run P w=.ok a.isNone w:=λd=>by cases a<;>simp[Op.equalIn,run_underlying h]
 exact key 9999
def acY{e:Nat}(h:P.underlying t=some (.pointer e))(p:Option Addr)(w:World):(Op.equal t (.pointer p) (.pointer none)).run P w=.ok p.isNone w:=by
 have key:∀ d,(Op.equalIn (d+1) t (.pointer p) (.pointer none)).run P w=.ok p.isNone w:=λd=>by cases p<;>simp[Op.equalIn,run_underlying h]
 exact key 9999
def TM{op:BinOp}{v:ak}{p q:Value}(ar:∀ w,op=.eql\/op=.neq->(eqGuard op t x y p q).run P w=.ok () w)(he:∀ w,(Op.equal t p q).run P w=.ok b w)(af:∀ w,(binOp .eql t p q).run P w=.ok (.bool b) w)(av:∀ w,(binOp .neq t p q).run P w=.ok (.bool (!b)) w)(h:HF op b=some v)(ae:∀ u,aM D v u->K u):cu P op t x y (.val p) (.val q) K O:=by
 unfold HF at h;split at h
 ·cases h;refine .mk p q (.bool b) rfl rfl (λw=>?_) (ae _ (by simp only[aM]));simp only[bM,ar w (.inl rfl),bx,af w]
 ·cases h;refine .mk p q (.bool (!b)) rfl rfl (λw=>?_) (ae _ (by simp only[aM]));simp only[bM,ar w (.inr rfl),bx,av w]
 ·cases h
def acZ(aH:cB X.P X.E){op:BinOp}{x y v:ak}{ac0:Operand}(h:L7 X.P X.E op t x y=some v)(ab:aM D x u)(aG:aM D y w)(ae:∀ u,aM D v u->K u) :
  jZ op (X.E t) (.val u) (.val w) K (cu X.P op t oJ ac0 (.val u) (.val w) K O):=by
 unfold L7 at h;split at h
 ·rw[ab.int,aG.int];exact acS h ae
 ·rw[ab.str,aG.str];exact acT h ae
 ·rw[ab.bool,aG.bool];exact acU h ae
 ·obtain⟨us,U,rfl⟩:=ab.agg;obtain⟨ws,aa,rfl⟩:=aG.agg;exact acR aH h U aa ae
 ·obtain⟨i,hi,h⟩:=ch h;split at h
  ·rename_i e lS;obtain⟨b,U,h⟩:=ch h;obtain⟨a,n,c,rfl,rfl⟩:=acV U ab;simp only[aM]at aG;subst aG;obtain⟨d,e3,ff⟩:=(aH _ _ hi).e1;have aa:d=.slice e:=by rw[lS]at ff;cases d<;>simp_all[eW]
   subst aa;have he:=acX e3 a n c;exact TM (λw ap=>by rcases ap with rfl | rfl<;>(unfold eqGuard;rfl)) he (λw=>by simp only[binOp];simp[he w]) (λw=>by simp only[binOp];simp[he w]) h ae
  ·cases h
 ·obtain⟨i,hi,h⟩:=ch h;split at h
  ·rename_i e lS;obtain⟨b,U,h⟩:=ch h;obtain⟨p,rfl,rfl⟩:=acW U ab;simp only[aM]at aG;subst aG;obtain⟨d,e3,ff⟩:=(aH _ _ hi).e1;have aa:d=.pointer e:=by rw[lS]at ff;cases d<;>simp_all[eW]
   subst aa;have he:=acY e3 p;exact TM (λw ap=>by rcases ap with rfl | rfl<;>(unfold eqGuard;rfl)) he (λw=>by simp only[binOp];simp[he w]) (λw=>by simp only[binOp];simp[he w]) h ae
  ·cases h
 ·cases h
variable(aH:cB X.P X.E)(hm:cE (df X G pr) D m I M)
def Bt{v:ak}{n:Nat}(h:v.nat=some n):∃ k,v=.i k (.ofNat n):=by
 unfold ak.nat at h;split at h
 ·cases h;exact⟨_,rfl⟩
 ·cases h
def TN{x v:ak}{n:Nat}(h:D8 x n=some v)(ab:aM D x u):∃ a,u=.pointer (some a)/\a.spot=none/\aM D v (.pointer (some (a.add n))):=by
 unfold D8 at h;split at h
 ·cases h;obtain⟨a,aD,rfl⟩:=ab.ptr;refine⟨_,rfl,rfl,?_⟩;rw[d' _ rfl];simp only[aM];exact⟨a,aD,by simp only[xe,mm]⟩
 ·cases h;refine⟨_,ab.oI,rfl,?_⟩;rw[d' _ rfl];simp only[aM];rfl
 ·cases h
def ac1{x v:ak}(h:HG x j sz=some v)(ab:aM D x u):∃ a n c,u=.slice (some a) n c/\j<n/\aM D v (.pointer (some (a.add (j*sz)))):=by
 unfold HG at h;split at h
 ·cases af:Nat.blt j _ with
  |false=>rw[af]at h;cases h| true=>rw[af]at h;cases h;obtain⟨a,aD,rfl⟩:=ab.qE;refine⟨_,_,_,rfl,bB af,?_⟩;rw[d' _ rfl];simp only[aM];exact⟨a,aD,by simp only[xe,Br,mm]⟩
 ·cases af:Nat.blt j _ with
  |false=>rw[af]at h;cases h| true=>rw[af]at h;cases h;obtain⟨a,aD,_,rfl⟩:=ab.sr;refine⟨_,_,_,rfl,bB af,?_⟩;rw[d' _ rfl];simp only[aM];exact⟨a,aD,by simp only[xe,Br,mm]⟩
 ·cases af:Nat.blt j _ with
  |false=>rw[af]at h;cases h| true=>rw[af]at h;cases h;refine⟨_,_,_,ab.MF,bB af,?_⟩;rw[d' _ rfl];simp only[aM];rfl
 ·cases h
def TO{cs:List ak}{v:ak}(h:HI aF cs off=some v)(aA:bq D cs us) :
  off+aF.size<=us.length/\aM D v (pack aF.bz.agg ((us.drop off).take aF.size)):=by
 unfold HI at h;obtain⟨aq,h⟩:=w9 h;obtain⟨l,U,aa⟩:=ch h;have kr:aF.size≠0:=λe=>by rw[e]at aq;cases aq
 obtain⟨rfl,ay⟩:=TK U;rw[HY]at aa ay;refine⟨?_,H3 aa ((aA.drop off).take _)⟩;have:=aA.len;simp at ay;omega
def TP{i:Nat}{gl:dH}(h:HH E t i=some (off,gl)):∃ a b z bT kM,E t=some ⟨a,b,z,.struct bT⟩/\bT[i]?=some (kM,off)/\E kM=some gl:=by
 unfold HH at h;split at h
 ·rename_i a b z bT au;split at h
  ·rename_i kM o aw;rw[xc]at aw;split at h
   ·rename_i f Em;cases h;exact⟨_,_,_,_,kM,au,aw,Em⟩
   ·cases h
  ·cases h
 ·cases h
def ac2(h:L' E t=some (r,aF)):(∃ a b z e,E t=some ⟨a,b,z,.slice e⟩/\E e=some aF/\r=none)\/∃ a b z n e,E t=some ⟨a,b,z,.array n e⟩/\E e=some aF/\r=some n:=by
 unfold L' at h;split at h
 ·rename_i a b z e au;split at h
  ·cases h;exact .inl ⟨_,_,_,_,au,by assumption,rfl⟩
  ·cases h
 ·rename_i a b z n e au;split at h
  ·cases h;exact .inr ⟨_,_,_,_,_,au,by assumption,rfl⟩
  ·cases h
 ·cases h
def ac3{x i v:ak}(h:D9 X.E t (some x) (some i)=some v)(ab:aM D x u)(hi:aM D i w){ρ:Operand->cW}{fy:Operand}(MO:dh ρ oJ=.val u)(g5:dh ρ fy=.val w)
  (k:∀ x,fs D x v->V x):b5 X (.index t oJ fy) ρ C I M V O:=by
 unfold D9 at h;split at h
 ·rename_i l fw au U aa;cases U;cases aa;obtain⟨j,al,h⟩:=ch h;obtain⟨e9,rfl⟩:=Bt al;have eU:Ma l j=some v:=h;unfold Ma at eU;obtain⟨b,af,eK⟩:=ch eU;cases eK;rw[xc]at af;rw[ab.str]at MO;rw[hi.int]at g5;have aL:=(ij.1 af).1;simp only[b5,au,MO,g5];refine⟨j,rfl,by simpa[ByteArray.size]using aL,k _ (.val ?_)⟩;simp only[aM];have:(⟨l.toArray⟩:ByteArray)[j]'(by simpa[ByteArray.size]using aL)=b:=by have:=(ij.1 af).2;show l.toArray[j]'_=b;simpa using this
  rw[this];rfl
 ·rename_i n e cs fw au U aa;cases U;cases aa;obtain⟨aF,he,h⟩:=ch h;obtain⟨j,al,h⟩:=ch h;obtain⟨e9,rfl⟩:=Bt al;obtain⟨us,fm,rfl⟩:=ab.agg;unfold Tb at h;obtain⟨af,h⟩:=fS h;rw[bL]at af;obtain⟨ag,aK⟩:=TO h fm;rw[hi.int]at g5;simp only[b5,au,MO,g5,he];have cm:Nat.beq (n*aF.size) us.toArray.size=true:=by have bg:=cC af.1;rw[oY,fm.len,<-bg];exact o3 _
  rw[cm];simp only[ba];exact⟨j,rfl,bB af.2,k _ (.val aK)⟩
 ·cases h
def ac4{x v:ak}{l:Nat}{h:Option Nat}(ao:L8 x sz l h=some v)(ab:aM D x u):∃ a n c,u=.slice a n c/\l<=h.getD n/\h.getD n<=c/\(h=none->l<=n) /\
  aM D v (.slice (if c=l then a else a.map (·.add (l*sz))) (h.getD n-l) (c-l)):=by
 unfold L8 at ao;split at ao
 ·cases af:(Nat.beq l 0&&Nat.beq (h.getD 0) 0)with
  |false=>rw[af]at ao;cases ao| true=>rw[af]at ao;cases ao;rw[bL]at af;have U:=cC af.1;have aa:=cC af.2;subst U;refine⟨none,0,0,ab.zg,by omega,by omega,λ_=>by omega,?_⟩;rw[aa];simp[aM]
 ·rename_i id off n c;obtain⟨a,aD,rfl⟩:=ab.qE;simp only at ao;cases af:(Nat.ble l (h.getD n)&&Nat.ble (h.getD n) c)with
  |false=>rw[af]at ao;cases ao
  |true=>
   rw[af]at ao;simp only[ba]at ao;rw[bL]at af;have U:=bB af.1;have aa:=bB af.2;refine⟨_,n,c,rfl,U,aa,λe=>by subst e;exact U,?_⟩;rw[MD]at ao;by_cases e:c=l;·subst e;simp only[DM,ba]at ao;cases ao;simp only[o1,aM];exact⟨a,aD,by simp only[Bs,zh]⟩
   ·simp only[e,decide_false,a5]at ao;cases ao;simp only[e,jC,aM,kj];refine⟨a,aD,?_⟩;rw[d' _ rfl];simp only[xe,Br,Bs,mm]
 ·rename_i id off e n;obtain⟨a,aD,hle,rfl⟩:=ab.sr;simp only at ao;cases af:(Nat.ble l (h.getD n)&&Nat.ble (h.getD n) n)with
  |false=>rw[af]at ao;cases ao
  |true=>
   rw[af]at ao;simp only[ba]at ao;rw[bL]at af;have U:=bB af.1;have aa:=bB af.2;refine⟨_,n,a.c-e,rfl,U,by omega,λe=>by subst e;exact U,?_⟩;cases aA:(Nat.beq l 0||Nat.blt l n)with
   |true=>
    rw[aA]at ao;simp only[ba]at ao;cases ao;rw[jY]at aA;simp only[aM];refine⟨a,aD,by simp only[xe,Bs];omega,?_⟩;have ag:a.c-e-l=a.c-(e+l):=by omega
    by_cases aq:l=0
    ·subst aq;simp only[At,xd,kj,xe,Br,Bs,o0];split
     ·rfl
     ·rw[d' _ rfl];simp
    ·have aK:l<n:=by
      rcases aA with aA | aA;·exact absurd (cC aA) aq
      ·exact bB aA
     rw[dc (by omega)];simp only[kj];rw[d' _ rfl];simp only[xe,Br,Bs,mm,ag]
   |false=>
    rw[aA]at ao;simp only[a5]at ao;cases ao;rw[lq]at aA;have aK:¬ l<n:=λaL=>by have:=yN (show l.succ<=n from aL);rw[show Nat.blt l n=Nat.ble l.succ n from rfl,this]at aA;cases aA.2
    have bg:h.getD n-l=0:=by omega
    simp only[aM,bg];split;·exact⟨_,_,rfl⟩
    ·exact⟨_,_,rfl⟩
 ·cases ao
end
section
variable{X:cx}{G:GT}{pr:j5}{D:bu}{m:a8}{F:Fr}{aj:a4 ak}{C:c7}{I:aN}{M:List aC}{V:cW->Prop}{O:Prop}
def ac5(c:Bool)(a b:Value):FL c (.val a) (.val b)=.val (bif c then a else b):=by cases a<;>cases b<;>cases c<;>rfl
def TQ{o:Option Operand}{xs:List Operand}(H:hL D F aj xs)(ab:∀ y,o=some y->y∈xs)(h:y' (o.map (cI aj))=some r) :
  (o.map (dh (cR F))=none/\r=none)\/∃ k n,o.map (dh (cR F))=some (.val (.int k (Int.ofNat n)))/\r=some n:=by
 cases o with
 |none=>simp[y']at h;exact .inl ⟨rfl,h.symm⟩
 |some y=>
  simp only[kj,y']at h;cases ah:cI aj y with
  |none=>rw[ah]at h;cases h
  |some v=>
   rw[ah]at h;simp only at h;split at h;·rename_i n av;cases h;obtain⟨k,rfl⟩:=Bt av;obtain⟨u,hu,an⟩:=H.bm (ab y rfl) ah;rw[an.int]at hu;exact .inr ⟨k,n,by simp only[kj];exact congrArg some hu,rfl⟩
   ·cases h
def MP(l:List UInt8)(lo hi:Nat):(⟨(L9 l lo hi).toArray⟩:ByteArray)=(⟨l.toArray⟩:ByteArray).extract lo hi:=by apply oZ;apply fV;unfold L9;rw[HY];simp[z6,List.extract_eq_take_drop]
def ac6{v:ak}{n:Nat}(h:tQ v=some n)(ah:aM D v u):∃ a c,u=.slice a n c:=by
 unfold tQ at h;split at h
 ·cases h;exact⟨_,_,ah.zg⟩
 ·cases h;obtain⟨a,c,rfl⟩:=ah.HZ;exact⟨_,_,rfl⟩
 ·cases h;obtain⟨a,_,rfl⟩:=ah.qE;exact⟨_,_,rfl⟩
 ·cases h;obtain⟨a,_,_,rfl⟩:=ah.sr;exact⟨_,_,rfl⟩
 ·cases h;exact⟨_,_,ah.MF⟩
 ·cases h
def ac7(aH:cB X.P X.E){b:Builtin}{ts:Array TypeId}{v:ak}(h:Md X.E b ts.toList (l9 aj args.toList)=some v)(H:hL D F aj args.toList)(k:∀ x,fs D x v->V x) :
  b5 X (.call { callee:=.builtin b,args:=args,argTypes:=ts }) (cR F) C I M V O:=by
 unfold Md at h;split at h
 ·
  unfold Tg at h;split at h
  ·rename_i t w au ay;obtain⟨us,ax,aR⟩:=H.kL (λ_ h=>h) ay;obtain⟨u,xs,aV,bl,rfl⟩:=aR.iU;have:=bl.lL;subst this;have dy:il (cR F) args.toList=some [u]:=ax;simp only[b5,au,dy];split at h
   ·rename_i a b z e k7 my;unfold HJ at h;obtain⟨n,av,h⟩:=ch h;have eK:some (ak.i .i64 (.ofNat n))=some v:=h;cases eK;obtain⟨bF,c,rfl⟩:=ac6 av aV;simp only[my];exact k _ (.val (by simp only[aM];rfl))
   ·rename_i a b z l my;cases h;rw[aV.str];simp only[my];refine k _ (.val ?_);simp only[aM];simp[ByteArray.size]
   ·rename_i a b z n e k7 my;cases h;cases u<;>(simp only[my];exact k _ (.val (by simp only[aM];rfl)))
   ·cases h
  ·cases h
 ·unfold Th at h;split at h
  ·rename_i cM a cp b ay;obtain⟨us,ax,aR⟩:=H.kL (λ_ h=>h) ay;obtain⟨u,xs,aV,bl,rfl⟩:=aR.iU;obtain⟨w,me,fP,om,rfl⟩:=bl.iU;have:=om.lL;subst this;have dy:il (cR F) args.toList=some [u,w]:=ax;rw[aV.int,fP.int]at dy;simp only[b5,dy];cases h;refine k _ (.val ?_);simp only[aM];rw[jw,HV];by_cases gd:a<=b
   ·simp[gd];omega
   ·simp[gd];omega
  ·cases h
 ·unfold Ti at h;split at h
  ·rename_i cM a cp b ay;obtain⟨us,ax,aR⟩:=H.kL (λ_ h=>h) ay;obtain⟨u,xs,aV,bl,rfl⟩:=aR.iU;obtain⟨w,me,fP,om,rfl⟩:=bl.iU;have:=om.lL;subst this;have dy:il (cR F) args.toList=some [u,w]:=ax;rw[aV.int,fP.int]at dy;simp only[b5,dy];cases h;refine k _ (.val ?_);simp only[aM];rw[jw,HV];by_cases gd:a<=b
   ·simp[gd];omega
   ·simp[gd];omega
  ·cases h
 ·unfold Tj at h;split at h
  ·rename_i t id off n c au ay;split at h
   ·rename_i a b z e my;cases h;obtain⟨us,ax,aR⟩:=H.kL (λ_ h=>h) ay;obtain⟨u,xs,aV,bl,rfl⟩:=aR.iU;have:=bl.lL;subst this;obtain⟨bF,aD,rfl⟩:=aV.qE;have dy:il (cR F) args.toList=some [_]:=ax;simp only[b5,au,dy,my];exact k _ (.val (by simp only[aM];rfl))
   ·cases h
  ·cases h
 ·unfold Tk at h;split at h
  ·rename_i ay;cases h;obtain⟨us,ax,aR⟩:=H.kL (λ_ h=>h) ay;obtain⟨u,xs,aV,bl,rfl⟩:=aR.iU;have:=bl.lL;subst this;rw[aV.zg]at ax;have dy:il (cR F) args.toList=some [_]:=ax;simp only[b5,dy];exact k _ (.val (by simp only[aM]))
  ·rename_i id off n c ay;obtain⟨aq,h⟩:=w9 h;cases h;obtain⟨us,ax,aR⟩:=H.kL (λ_ h=>h) ay;obtain⟨u,xs,aV,bl,rfl⟩:=aR.iU;have:=bl.lL;subst this;obtain⟨bF,aD,rfl⟩:=aV.qE;have dy:il (cR F) args.toList=some [_]:=ax;simp only[b5,dy];refine⟨λe=>?_,k _ (.val ?_)⟩
   ·have:c=0:=by omega
    subst this;cases aq
   ·simp only[aM];exact⟨bF,aD,rfl⟩
  ·rename_i id off e n ay;obtain⟨aq,h⟩:=w9 h;cases h;obtain⟨us,ax,aR⟩:=H.kL (λ_ h=>h) ay;obtain⟨u,xs,aV,bl,rfl⟩:=aR.iU;have:=bl.lL;subst this;obtain⟨bF,aD,hle,rfl⟩:=aV.sr;have dy:il (cR F) args.toList=some [_]:=ax;simp only[b5,dy];refine⟨λa0=>?_,k _ (.val ?_)⟩
   ·have:n=0:=by omega
    subst this;cases aq
   ·simp only[aM];exact⟨bF,aD,rfl⟩
  ·cases h
 ·cases h
def ac8(aH:cB X.P X.E){op:Op}{v:ak}(h:Me X.P X.E G m.t op aj=some v)(H:hL D F aj op.operands.toList)(hm:cE (df X G pr) D m I M)(k:∀ x,fs D x v->V x):b5 X op (cR F) C I M V O:=by
 unfold Me at h;split at h
 ·
  exact k _ (H _ (by simp[Op.operands]) _ h)
 ·exact k _ (H _ (by simp[Op.operands]) _ h)
 ·
  rename_i c a b;unfold S4 at h;split at h
  ·rename_i q u w U aa ag;cases h;have aA:=H c (by simp[Op.operands]) _ U;have aD:=H a (by simp[Op.operands]) _ aa;have af:=H b (by simp[Op.operands]) _ ag;simp only[b5];rcases aA with⟨als,H8,aA⟩ | ⟨eN,a0,H8⟩
   ·rw[aA.bool]at H8;simp only[H8];obtain⟨MQ,rA,ac9⟩:=aD.dh;obtain⟨En,vv,ca⟩:=af.dh;have ada:dh (cR F) a=.val MQ:=rA;have adb:dh (cR F) b=.val En:=vv;rw[ada,adb];refine k _ (.inl ⟨bif q then MQ else En,?_,?_⟩)
    ·exact ac5 q MQ En
    ·cases q
     ·exact ca
     ·exact ac9
   ·cases a0;simp only[H8];cases q
    ·exact k _ af
    ·exact k _ aD
  ·cases h
 ·
  rename_i alt t x;unfold S5 at h;split at h
  ·rename_i b U;cases h;have ab:=H x (by simp[Op.operands]) _ U;simp only[b5];rcases ab with⟨u,e,hu⟩ | ⟨q,ax,e⟩
   ·rw[hu.bool]at e;simp only[e];exact k _ (.val (by simp only[aM];rw[MN]))
   ·cases ax;simp only[e];exact k _ (.inr ⟨!b,by rw[MN],rfl⟩)
  ·rename_i e9 n U;cases h;have ab:=H x (by simp[Op.operands]) _ U;obtain⟨u,e,hu⟩:=ab.tW (by simp);rw[hu.int]at e;simp only[b5,e];exact⟨_,rfl,k _ (.val (by simp only[aM];rw[xa]))⟩
  ·cases h
 ·
  rename_i alu t x y eB;unfold S6 at h;obtain⟨a,U,h⟩:=ch h;obtain⟨b,aa,h⟩:=ch h;obtain⟨u,ax,aR⟩:=H.bm (x:=x) (by simp[Op.operands]) U;obtain⟨w,az,aV⟩:=H.bm (x:=y) (by simp[Op.operands]) aa;have dy:dh (cR F) x=.val u:=ax;have dZ:dh (cR F) y=.val w:=az;simp only[b5,dy,dZ];exact acZ aH h aR aV λr an=>k _ (.val an)
 ·
  rename_i t x;unfold S7 at h;obtain⟨i,hi,h⟩:=ch h;obtain⟨a,U,h⟩:=ch h;have ab:=H x (by simp[Op.operands]) _ U;have kD:∀ q,a≠.b q:=λq e=>by subst e;cases h
  obtain⟨u,ax,aR⟩:=ab.tW kD;obtain⟨ad,l,vs,rfl,bh,ay,aO⟩:=xf hm aR h;simp only[b5,hi,ax];exact⟨vs,bh,k _ (.val (H3 aO ay))⟩
 ·
  rename_i x;unfold S8 at h;split at h;·rename_i id off U;cases h;obtain⟨u,ax,aR⟩:=(H x (by simp[Op.operands]) _ U).tW (by simp);obtain⟨a,aD,rfl⟩:=aR.ptr;simp only[b5,ax];exact k _ (.val aR)
  ·rename_i id off U;cases h;obtain⟨u,ax,aR⟩:=(H x (by simp[Op.operands]) _ U).tW (by simp);have:=aR.oI;subst this;simp only[b5,ax];exact k _ (.val aR)
  ·cases h
 ·
  rename_i t x i;unfold S9 at h;obtain⟨r,an,h⟩:=ch h;obtain⟨a,U,h⟩:=ch h;obtain⟨off,gl⟩:=r;obtain⟨bd,h⟩:=w9 h;obtain⟨sa,qF,sz,bT,kM,au,aw,Em⟩:=TP an;have ab:=H x (by simp[Op.operands]) _ U;have kD:∀ q,a≠.b q:=λq e=>by subst e;cases h
  obtain⟨u,ax,aR⟩:=ab.tW kD;obtain⟨ad,rfl,ao,ah⟩:=TN h aR;have ir:Nat.beq gl.size 0=false:=bd;simp only[b5,au,aw,Em,ax,ir,a5];exact k _ (.val ah)
 ·
  rename_i t x i;unfold S' at h;split at h;·rename_i off gl cs aq U;obtain⟨sa,qF,sz,bT,kM,au,aw,Em⟩:=TP aq;obtain⟨u,ax,aR⟩:=H.bm (x:=x) (by simp[Op.operands]) U;obtain⟨us,fm,rfl⟩:=aR.agg;obtain⟨aa,ag⟩:=TO h fm;have dy:dh (cR F) x=.val (.agg us.toArray):=ax;simp only[b5,au,dy,aw,Em];rw[show Nat.ble (off+gl.size) us.toArray.size=true from yN (by simpa using aa)];exact k _ (.val ag)
  ·cases h
 ·
  rename_i t x i;unfold Ta at h;obtain⟨r,an,h⟩:=ch h;obtain⟨a,U,h⟩:=ch h;obtain⟨b,aa,h⟩:=ch h;obtain⟨j,al,h⟩:=ch h;obtain⟨e9,rfl⟩:=Bt al;obtain⟨u,az,aV⟩:=H.bm (x:=i) (by simp[Op.operands]) aa;rw[aV.int]at az;have dZ:dh (cR F) i=.val (.int e9 (.ofNat j)):=az;obtain⟨MR,aF⟩:=r;rcases ac2 an with⟨sa,qF,sz,e,au,he,rfl⟩ | ⟨sa,qF,sz,n,e,au,he,rfl⟩;·have a1:HG a j aF.size=some v:=h;obtain⟨w,ax,aR⟩:=H.bm (x:=x) (by simp[Op.operands]) U;obtain⟨ad,n,c,rfl,aL,ah⟩:=ac1 a1 aR;have dy:dh (cR F) x=.val (.slice (some ad) n c):=ax;simp only[b5,au,dZ,he,dy];exact⟨ad,j,rfl,rfl,aL,k _ (.val ah)⟩
  ·have a1:bH (Nat.blt j n) (D8 a (Nat.mul j aF.size)) none=some v:=h;obtain⟨af,a1⟩:=fS a1;have ab:=H x (by simp[Op.operands]) _ U;have kD:∀ q,a≠.b q:=λq e=>by subst e;cases a1
   obtain⟨w,ax,aR⟩:=ab.tW kD;obtain⟨ad,rfl,ao,ah⟩:=TN a1 aR;simp only[b5,au,dZ,he,ax];exact⟨j,rfl,bB af,k _ (.val ah)⟩
 ·
  rename_i t x i;cases U:cI aj x with
  |none=>rw[U]at h;unfold D9 at h;split at h<;>first | cases h | (rename_i e _;cases e)
  |some a=>
   cases aa:cI aj i with
   |none=>rw[aa]at h;unfold D9 at h;split at h<;>first | cases h | (rename_i e;cases e)
   |some b=>rw[U,aa]at h;obtain⟨u,ax,aR⟩:=H.bm (x:=x) (by simp[Op.operands]) U;obtain⟨w,az,aV⟩:=H.bm (x:=i) (by simp[Op.operands]) aa;exact ac3 h aR aV ax az k
 ·
  rename_i t parts;unfold Tc at h;split at h
  ·rename_i i vs au aO;obtain⟨z,bd,h⟩:=ch h;have ir:=bq.yR (D:=D) bd;obtain⟨us,ax,aR⟩:=H.parts (l:=parts.toList) (by intro y aG;simpa[Op.operands]using aG) aO;have dy:qX (cR F) parts.toList=some us:=ax
   try simp only at h
   split at h;·rename_i bT lS;obtain⟨tp,h⟩:=fS h;unfold D' at h;obtain⟨cs,ag,aK⟩:=ch h;have eK:some (ak.a cs)=some v:=aK;cases eK;obtain⟨aU,bg,bD⟩:=H4 ag ir aR;simp only[b5,au,dy,lS,tp,ba,bg];exact k _ (.val (.H0 bD))
   ·rename_i n e lS;obtain⟨aF,he,h⟩:=ch h;have a1:D' (w6 (λj=>some (j*aF.size,aF.size)) z vs)=some v:=h;unfold D' at a1;obtain⟨cs,ag,aK⟩:=ch a1;have eK:some (ak.a cs)=some v:=aK;cases eK;obtain⟨aU,bg,bD⟩:=H4 ag ir aR;simp only[b5,au,dy,lS,he,bg];exact k _ (.val (.H0 bD))
   ·cases h
  ·cases h
 ·
  rename_i f first captured
  unfold Td at h;split at h
  ·rename_i g bT cs U aa;cases h;obtain⟨us,ax,aR⟩:=H.kL (l:=first.toList) (by intro y aG;simp[Op.operands];exact .inl (by simpa using aG)) U;obtain⟨ws,az,aV⟩:=H.kL (l:=captured.toList) (by intro y aG;simp[Op.operands];exact .inr (by simpa using aG)) aa;have dy:il (cR F) first.toList=some us:=ax
   have dZ:il (cR F) captured.toList=some ws:=az;simp only[b5,dy,dZ];exact k _ (.val (by simp only[aM];exact⟨us,ws,aR,aV,rfl⟩))
  ·cases h
 ·
  rename_i t x lo hi;cases U:cI aj x with
  |none=>rw[U]at h;unfold Ea at h;split at h<;>first | cases h | (rename_i e _ _;cases e)
  |some a=>
   rw[U]at h;cases aa:y' (lo.map (cI aj))with
   |none=>rw[aa]at h;unfold Ea at h;split at h<;>first | cases h | (rename_i e _;cases e)
   |some l=>
    rw[aa]at h;cases ag:y' (hi.map (cI aj))with
    |none=>rw[ag]at h;unfold Ea at h;split at h<;>first | cases h | (rename_i e;cases e)
    |some bI=>
     rw[ag]at h;obtain⟨u,ax,aR⟩:=H.bm (x:=x) (by simp[Op.operands]) U;have dy:dh (cR F) x=.val u:=ax;have dX:=TQ H (λy aG=>by subst aG;simp[Op.operands]) aa;have eX:=TQ H (λy aG=>by subst aG;simp[Op.operands]) ag;unfold Ea at h;split at h
     ·rename_i sa qF sz e mv ade cT au bc ct ej;cases bc;cases ct;cases ej;obtain⟨aF,he,h⟩:=ch h;have a1:Mb aF a l bI=some v:=h;unfold Mb at a1;split at a1
      ·have el:lo.map (dh (cR F))=none:=by
        rcases dX with⟨el,_⟩ | ⟨_,_,_,el⟩;·exact el
        ·cases el
       have mW:hi.map (dh (cR F))=none:=by
        rcases eX with⟨mW,_⟩ | ⟨_,_,_,mW⟩;·exact mW
        ·cases mW
       have kw:∃ q n c,u=.slice q n c/\aM D v u:=by
        split at a1;·cases a1;exact⟨_,_,_,aR.zg,aR⟩
        ·cases a1;obtain⟨q,_,rfl⟩:=aR.qE;exact⟨_,_,_,rfl,aR⟩
        ·cases a1;obtain⟨q,_,_,rfl⟩:=aR.sr;exact⟨_,_,_,rfl,aR⟩
        ·cases a1;obtain⟨q,c,rfl⟩:=aR.HZ;exact⟨_,_,_,rfl,aR⟩
        ·cases a1
       obtain⟨q,n,c,rfl,ah⟩:=kw;simp only[b5,au,dy,he,el,mW];exact k _ (.val ah)
      ·obtain⟨q,n,c,rfl,dw,ef,hV,ah⟩:=ac4 a1 aR;simp only[b5,au,dy,he];rcases dX with⟨el,rfl⟩ | ⟨Cp,Eo,el,rfl⟩<;>rcases eX with⟨mW,rfl⟩ | ⟨adf,Ep,mW,rfl⟩<;>simp only[el,mW]
       ·rename_i bk;exact(bk rfl rfl).elim
       ·simp only[rK,iZ]at dw ef ah;refine⟨0,Ep,rfl,rfl,bj _,ef,k _ (.val ?_)⟩;simp only[At,xd]at ah;have b7:(if c=0 then q else q.map λx=>x.add 0)=q:=by
         split;·rfl
         ·cases q with
          |none=>rfl| some q=>simp[Addr.add]
        rw[b7]at ah;exact ah
       ·simp only[rK,iZ]at dw ef ah;exact⟨Eo,n,rfl,rfl,dw,b6 _,k _ (.val ah)⟩
       ·simp only[rK,iZ]at dw ef ah;exact⟨Eo,Ep,rfl,rfl,dw,ef,k _ (.val ah)⟩
     ·rename_i sa qF sz str ade cT au bc ct ej;cases bc;cases ct;cases ej;rw[aR.str]at dy;have a1:Mc str l bI=some v:=h;unfold Mc at a1;split at a1
      ·have el:lo.map (dh (cR F))=none:=by
        rcases dX with⟨el,_⟩ | ⟨_,_,_,el⟩;·exact el
        ·cases el
       have mW:hi.map (dh (cR F))=none:=by
        rcases eX with⟨mW,_⟩ | ⟨_,_,_,mW⟩;·exact mW
        ·cases mW
       cases a1;simp only[b5,au,dy,el,mW];exact k _ (.val (by simp only[aM]))
      ·obtain⟨af,a1⟩:=fS a1;cases a1;rw[bL]at af;have cg:=bB af.1;have b2:=bB af.2;have cm:(⟨str.toArray⟩:ByteArray).size=str.length:=by simp[ByteArray.size]
       simp only[b5,au,dy];rcases dX with⟨el,rfl⟩ | ⟨Cp,Eo,el,rfl⟩<;>rcases eX with⟨mW,rfl⟩ | ⟨adf,Ep,mW,rfl⟩<;>simp only[el,mW]
       ·rename_i bk;exact(bk rfl rfl).elim
       ·simp only[rK,iZ]at cg b2;exact⟨0,Ep,rfl,rfl,bj _,by rw[cm];exact b2,k _ (.val (by simp only[aM,rK,iZ,MP]))⟩
       ·simp only[rK,iZ]at cg b2;exact⟨Eo,str.length,rfl,by rw[cm];rfl,cg,by rw[cm];exact b6 _,k _ (.val (by simp only[aM,rK,iZ,MP,cm]))⟩
       ·simp only[rK,iZ]at cg b2;exact⟨Eo,Ep,rfl,rfl,cg,by rw[cm];exact b2,k _ (.val (by simp only[aM,rK,iZ,MP]))⟩
     ·cases h
 ·
  rename_i x i;unfold Te at h;split at h;·rename_i vs U;obtain⟨u,ax,aR⟩:=H.bm (x:=x) (by simp[Op.operands]) U;obtain⟨us,fm,rfl⟩:=aR.MG;rw[xc]at h;obtain⟨w,hw,ah⟩:=fm.get h;have dy:dh (cR F) x=.val (.tuple us.toArray):=ax;simp only[b5,dy,hw];exact k _ (.val ah)
  ·cases h
 ·
  rename_i s d x;unfold Tf at h;split at h;·rename_i e9 cM n ao ai U;cases h;obtain⟨u,ax,aR⟩:=H.bm (x:=x) (by simp[Op.operands]) U;rw[aR.int]at ax;have dy:dh (cR F) x=.val (.int cM n):=ax;simp only[b5,ao,ai,dy];exact⟨_,rfl,k _ (.val (by simp only[aM];rw[xa]))⟩
  ·cases h
 ·
  rename_i b args ts;exact ac7 aH h (by simpa[Op.operands,Call.operands]using H) k
 ·cases h
end
def bu.set(D:bu)(id:Nat)(a:Loc):bu:=λi=>if i=id then some a else D i
def bu.pG(D:bu)(id:Nat)(a:Loc):(D.set id a) id=some a:=by simp[bu.set]
def bu.le_refl(D:bu):D.le D:=λ_ _ h=>h
def bu.le_trans(h:D.le bf)(k:bf.le H5):D.le H5:=λi a e=>k _ _ (h _ _ e)
def bu.xg{id:Nat}(a:Loc)(h:D id=none):D.le (D.set id a):=λi b af=>by
 unfold bu.set;split
 ·rename_i e;subst e;rw[h]at af;cases af
 ·exact af
def bu.ext(D bf:bu)(n:Nat):Prop:=∀ i,i<n->bf i=D i
def bu.mX{n:Nat}:D.ext D n:=λ_ _=>rfl
def bu.Bu{n:Nat}:D.ext (D.set n a) n:=λi hi=>by unfold bu.set;rw[dc (by omega)]
section
variable{Y:fC}{D bf:bu}{m:a8}{I I':aN}{M M':List aC}{R:Type}
def El.mono{G:GT}(h:El G I)(a9:∀ b o,I b=some o->I' b=some o):El G I':=λg cs ar=>by obtain⟨arr,T,f,U,aa⟩:=h g cs ar;exact⟨arr,T,f,a9 _ _ U,aa⟩
def cE.le(h:cE Y D m I M)(cH:D.ext bf m.n):D.le bf:=λi a aD=>by rw[cH i (h.h' _ _ aD)];exact aD
def cE.step(h:cE Y D m I M)(au:∀ id e,eB.get id=some e->(id=j/\b7=e)\/(id≠j/\m.t.get id=some e))(al:bf j=some a)(hle:D.le bf)(cH:∀ i,i≠j->bf i=D i)(adg:∀ id a,bf id=some a->id<fB)(a9:∀ b o,I b=some o->I' b=some o)(mw:∀ id e bF,id≠j->m.t.get id=some e->D id=some bF->∀ x∈M,x.num=bF.b->x∈M')
  (he:jT bf Y.E M' a b7) (GZ:∀ id e bF,id≠j->m.t.get id=some e->D id=some bF->bF.b≠a.b):cE Y bf ⟨eB,fB⟩ I' M' where
 hy id e bN ar U:=by
  rcases au id e ar with⟨ax,az⟩ | ⟨bk,ar⟩;·subst ax;subst az;rw[al]at U;cases U;exact he
  ·rw[cH id bk]at U;exact(h.hy id e bN ar U).mono hle λx ab av=>mw id e bN bk ar U x ab av
 inj id hh e a0 bN cG ar o8 U aa af:=by
  rcases au id e ar with⟨ax,az⟩ | ⟨bk,ar⟩
  ·rcases au hh a0 o8 with⟨bc,ct⟩ | ⟨xV,o8⟩
   ·rw[ax,bc]
   ·rw[cH hh xV]at aa;subst ax;rw[al]at U;cases U;exact(GZ hh a0 cG xV o8 aa af.symm).elim
  ·rw[cH id bk]at U;rcases au hh a0 o8 with⟨bc,ct⟩ | ⟨xV,o8⟩
   ·subst bc;rw[al]at aa;cases aa;exact(GZ id e bN bk ar U af).elim
   ·rw[cH hh xV]at aa;exact h.inj id hh e a0 bN cG ar o8 U aa af
 h':=adg
 oI:=h.oI.mono a9
def cE.fresh(h:cE Y D m I M):D m.n=none:=by
 cases cH:D m.n with
 |none=>rfl| some a=>exact absurd (h.h' _ _ cH) (Nat.lt_irrefl _)
def cE.aY(h:cE Y D m I M){id:Nat}{e:fj}(ar:m.t.get id=some e)(aD:D id=some a):∃ x∈M,x.num=a.b:=by
 cases h.hy id e a ar aD with
 |cells arr aq U=>exact⟨_,U,rfl⟩| map l c U=>exact⟨_,U,rfl⟩| loop L U=>exact⟨_,U,rfl⟩| done L U=>exact⟨_,U,rfl⟩
def cE.new(h:cE Y D m I M){o:Obj}(au:∀ id e,eB.get id=some e->(id=m.n/\some b7=some e)\/(id≠m.n/\m.t.get id=some e))(aw:∀ x∈M,x.num≠a.b)
  (he:jT (D.set m.n a) Y.E (⟨a.b,o⟩::M) a b7):cE Y (D.set m.n a) ⟨eB,m.n+1⟩ I (⟨a.b,o⟩::M):=
 h.step (λid e ar=>(au id e ar).imp (λh=>⟨h.1,mV h.2⟩) λh=>h) (D.pG _ _) (bu.xg a h.fresh) (λi hi=>by unfold bu.set;rw[dc hi])
  (λid b af=>by
   unfold bu.set at af;split at af;·omega
   ·have:=h.h' _ _ af;omega)
  (λ_ _ h=>h) (λ_ _ _ _ _ _ x ab _=>l' _ ab) he
  (λid e bF _ ar zi af=>by
   obtain⟨x,ab,av⟩:=h.aY ar zi;exact aw x ab (av.trans af))
def jT.new{l:List ak}{vs:List Value}{T c:Nat}{b:Nat}{cs:a4 ak}(kq:∀ j x,cs.get j=some x->(0<=j/\l[j-0]?=some x)\/((j<0\/0+l.length<=j)/\(a4.nil:a4 ak).get j=some x))(ay:bq D l vs)
  (ae:∀ i,Y.E T=some i->(vs++cur).length=c*i.size) (aA:c<=maxLen):jT D Y.E (⟨b,.cells (vs++cur).toArray T (0,0)⟩::M) ⟨b,0,c⟩ (.cells cs T l.length):=by
 refine .cells (vs++cur).toArray rfl (by simp) (by simp[ay.len]) (λi v hi ar=>?_) (λi hi=>by simpa using ae i hi) aA;rcases kq i v ar with⟨_,U⟩ | ⟨_,U⟩
 ·obtain⟨x,aa,ag⟩:=ay.get (i:=i) (by simpa using U);have aL:=(ij.1 aa).1;exact⟨x,by simp only[dK,xK];rw[kJ aL];exact aa,ag⟩
 ·cases U
def Er{e:fj}{K:Nat->a8->Option R}{r:R}(h:za m e K=some r):∃ eB,(∀ id a0,eB.get id=some a0->(id=m.n/\some e=some a0)\/(id≠m.n/\m.t.get id=some a0))/\K m.n ⟨eB,m.n+1⟩=some r:=by unfold za at h;rw[MC]at h;obtain⟨eB,U,aa⟩:=a4.mU (some e) m.t m.n;rw[U]at h;exact⟨eB,aa,h⟩
def MS{l:List ak}{T:Nat}{K:Nat->a8->Option R}{r:R}(h:sp m l T K=some r):∃ m',K m.n m'=some r/\m'.n=m.n+1 /\
  ∀ {D:bu} {I:aN} {M:List aC} {vs:List Value} (cur:List Value) {b c:Nat},cE Y D m I M->(∀ x∈M,x.num≠b)->bq D l vs->(∀ i,Y.E T=some i->(vs++cur).length=c*i.size)->c<=maxLen ->
   cE Y (D.set m.n ⟨b,0,c⟩) m' I (⟨b,.cells (vs++cur).toArray T (0,0)⟩::M):=by
 unfold sp at h;obtain⟨cs,U,aa⟩:=a4.vu l (.nil:a4 ak) 0;rw[U]at h;obtain⟨eB,ag,aK⟩:=Er h;refine⟨_,aK,rfl,fun {D I M vs} cur {b c} hm aw ay ae aA=>?_⟩;exact hm.new (a:=⟨b,0,c⟩) ag aw (.new aa (ay.mono (bu.xg _ hm.fresh)) ae aA)
end
def adh(z:List Value)(n:Nat):rowOf z (z.length+n)=rowOf z z.length++rowOf z n:=by unfold rowOf;rw[MJ,gg,oq];congr 1;apply Ar;intro i _;simp[Nat.add_mod_left]
def adi(z:List Value):rowOf z z.length=z:=by
 unfold rowOf;apply wi
 ·simp
 ·intro i U aa;simp only[jJ,mb,Nat.mod_eq_of_lt aa];simp[aa]
def MT(z:List Value):∀ n,rowOf z (n*z.length)=(List.replicate n z).flatten
 |0=>by simp[rowOf]
 |n+1=>by rw[Nat.succ_mul,FJ,adh,adi,MT z n,Hf,KG]
def TR(place:Nat->Option (Nat×Nat)):∀ (vs:List (Nat×Value)) (cs r:List Value),qW place cs vs=some r->r.length=cs.length
 |[],cs,r,h=>by simp only[qW]at h;cases h;rfl
 |(i,v)::vs,cs,r,h=>by
  simp only[qW]at h;split at h;·cases h
  ·rename_i off size aO;cases af:(Nat.beq v.cells.size size&&Nat.ble (off+size) cs.length)with
   |false=>rw[af]at h;cases h| true=>rw[af]at h;simp only[ba]at h;rw[TR place vs _ _ h];rw[bL]at af;have U:=cC af.1;have aa:=bB af.2;simp[bw];omega
def xh(dst:Option Nat)(u:Value)(F dI:Fr):Prop:=(∀ d,dst=some d->dI d=.val u)/\∀ (D:bu) t v,dst≠some t->fs D (F t) v->fs D (dI t) v
def xh.put(dst:Option Nat)(u:Value)(F:Fr):xh dst u F (put dst (.val u) F):=by
 constructor
 ·rintro d rfl;simp[Go.V.put,fL]
 ·intro D t v bk h;cases dst with
  |none=>exact h| some d=>have:t≠d:=λe=>bk (by rw[e]);simp only[Go.V.put,fL,gh this,a5];exact h
def xh.n7(d:Nat)(u:Value)(F:Fr):xh (some d) u F (fL (n7 F d) d (.val u)):=by
 constructor
 ·rintro _⟨⟩;simp[fL]
 ·intro D t v bk h;have:t≠d:=λe=>bk (by rw[e]);simp only[fL,gh this,a5];unfold Go.V.n7;rcases h with⟨adj,e,h⟩ | ⟨q,e,h⟩
  ·rw[e];exact .inl ⟨adj,rfl,h⟩
  ·rw[h];exact .inr ⟨q,e,rfl⟩
section
variable{X:cx}{G:GT}{pr:j5}{D:bu}{m:a8}{F:Fr}{aj:a4 ak}{C:c7}{I:aN}{M:List aC}{K:fG}{o:Oper}
def TS(aH:cB X.P X.E)(iR:∀ d,d<X.n->X.fM.contains d=true)(ai:∀ d,o.dst=some d->d<X.n){l:List ak}{T c:Nat}{mk:Nat->ak}(h:zc X.E o aj=some (l,T,c,mk))(Es:o.dst.isSome=true)(H:hL D F aj o.op.operands.toList)
  (k:∀ b vs u dI C',I b=none->(∀ x∈M,x.num≠b)->bq D l vs->(∀ i,X.E T=some i->vs.length=c*i.size)->c<=maxLen->(∀ (bf:bu) id,bf id=some ⟨b,0,c⟩->aM bf (mk id) u)->xh o.dst u F dI ->
   K dI C' I (⟨b,.cells vs.toArray T (0,0)⟩::M)):fX X o F C I M K:=by
 obtain⟨dst,op,ty,pos,after,guard⟩:=o;cases dst with
 |none=>cases Es
 |some d=>
  have pd:X.fM.contains d=true:=iR d (ai d rfl);have TT:∀ (b c:Nat) (bf:bu) id,bf id=some ⟨b,0,c⟩->aM bf (.p id 0) (.pointer (some ⟨b,0,none⟩)):=λb c bf id j6=>by simp only[aM];exact⟨_,j6,rfl⟩
  unfold zc at h;simp only at h H;split at h
  ·rename_i t x;unfold Tn at h;obtain⟨i,hi,h⟩:=ch h;obtain⟨v,ah,h⟩:=ch h;obtain⟨af,h⟩:=fS h;cases h;obtain⟨u,ax,aR⟩:=H.bm (x:=x) (by simp[Op.operands]) ah;have aA:=aR.cells;simp only[fX,ax,pd,ba];refine⟨λb U aa=>?_⟩;have:=k b u.cells.toList (.pointer (some ⟨b,0,none⟩)) _ (hO C d none) U aa aA (λfw cT=>?_) (by decide) (TT b 1) (.n7 d _ F)
   ·simpa using this
   ·rw[hi]at cT;cases cT;rw[aA.len,nm];exact cC af
  ·rename_i t;unfold To at h;obtain⟨i,hi,h⟩:=ch h;obtain⟨z,bd,h⟩:=ch h;cases h;simp only[fX,hi,pd,ba];refine⟨λb U aa=>?_⟩;exact k b i.zero (.pointer (some ⟨b,0,none⟩)) _ (hO C d none) U aa (.yR bd) (λfw cT=>by rw[hi]at cT;cases cT;rw[(aH _ _ hi).len,nm]) (by decide) (TT b 1) (.n7 d _ F)
  ·rename_i t len parts;unfold Tp at h;split at h
   ·rename_i sa qF sz e vs au aO;obtain⟨aF,he,h⟩:=ch h;obtain⟨z,bd,h⟩:=ch h;obtain⟨us,ax,aR⟩:=H.parts (l:=parts.toList) (by intro y aG;simpa[Op.operands]using aG) aO;simp only[fX,au,ax,he];have GA:=(aH _ _ he).len;cases af:(Nat.ble (len*aF.size) 16777216&&Nat.blt 0 (len*aF.size))with
    |true=>
     have ha:(Nat.ble (Nat.mul len aF.size) 16777216&&Nat.blt 0 (Nat.mul len aF.size))=true:=af;rw[jw,ha]at h;simp only[ba]at h |-;obtain⟨cs,ag,aK⟩:=ch h;have eK:some (cs,e,len,λid=>ak.sl id 0 len len)=some (l,T,c,mk):=aK;cases eK;have st:bq D (zb c z) (rowOf aF.zero (c*aF.size)):=by rw[<-GA,MT];exact(bq.yR bd).l3 c
     obtain⟨aU,bg,bD⟩:=H4 ag st aR;rw[bg];refine⟨λb U aa=>?_⟩;have hlen:aU.length=c*aF.size:=by rw[TR _ _ _ _ bg];simp[rowOf]
     rw[bL]at af;have nr:=bB af.1;have m8:0<c*aF.size:=bB af.2;exact k b aU (.slice (some ⟨b,0,none⟩) c c) _ C U aa bD (λfw cT=>by rw[he]at cT;cases cT;exact hlen)
      (by
       have eg:0<aF.size:=Nat.pos_of_mul_pos_left m8;have:c<=c*aF.size:=Nat.le_mul_of_pos_right _ eg;simp only[maxLen];omega)
      (λbf id j6=>by simp only[aM];exact⟨_,j6,rfl⟩) (.put _ _ F)
    |false=>
     have ha:(Nat.ble (Nat.mul len aF.size) 16777216&&Nat.blt 0 (Nat.mul len aF.size))=false:=af;rw[jw,ha]at h;simp only[a5]at h |-;obtain⟨aA,h⟩:=fS h;cases h;rw[bL]at aA;have ag:=cC aA.1;subst ag;have aK:vs=[]:=by simpa using aA.2
     subst aK;cases aR;simp only;refine⟨λb U aa=>?_⟩;exact k b [] (.slice (some ⟨b,0,none⟩) 0 0) _ C U aa .nil (λfw cT=>by simp) (by decide) (λbf id j6=>by simp only[aM];exact⟨_,j6,rfl⟩) (.put _ _ F)
   ·cases h
  ·rename_i t cU c';unfold Tq at h;split at h
   ·rename_i sa qF sz e FU xi au U aa;obtain⟨aF,he,h⟩:=ch h;obtain⟨n,av,h⟩:=ch h;obtain⟨q,aE,h⟩:=ch h;obtain⟨z,bd,h⟩:=ch h;obtain⟨af,h⟩:=fS h;cases h;obtain⟨cM,rfl⟩:=Bt av;obtain⟨cp,rfl⟩:=Bt aE;obtain⟨sj,ax,aR⟩:=H.bm (x:=cU) (by simp[Op.operands]) U;obtain⟨pB,az,aV⟩:=H.bm (x:=c') (by simp[Op.operands]) aa;rw[aR.int]at ax;rw[aV.int]at az;simp only[bL]at af;simp only[fX,au,ax,az,he];refine⟨n,c,rfl,rfl,bB af.1,bB af.2.1,bB af.2.2,⟨λb ag aK=>?_⟩⟩;have GA:=(aH _ _ he).len;have st:bq D (zb c z) (rowOf aF.zero (c*aF.size)):=by rw[<-GA,MT];exact(bq.yR bd).l3 c
    exact k b _ (.slice (some ⟨b,0,none⟩) n c) _ C ag aK st (λfw cT=>by rw[he]at cT;cases cT;simp[rowOf]) (bB af.2.2) (λbf id j6=>by simp only[aM];exact⟨_,j6,rfl⟩) (.put _ _ F)
   ·cases h
  ·cases h
end
def TU{vs:List Value}{i:Nat}(h:off+vs.length<=cs.length):(bw cs off vs)[i]?=if off<=i/\i<off+vs.length then vs[i-off]? else cs[i]?:=by
 unfold bw;by_cases U:i<off
 ·rw[dc (by omega),kJ (by simp;omega),kJ (by simp;omega),kK,dv U]
 ·by_cases aa:i<off+vs.length
  ·rw[dv ⟨by omega,aa⟩,kJ (by simp;omega),ng (by simp;omega)];simp;congr 1;omega
  ·rw[dc (by omega),ng (by simp;omega),pX];congr 1;simp;omega
def MU{vs:List Value}(h:off+vs.length<=cs.length):(bw cs off vs).length=cs.length:=by simp[bw];omega
section
variable{Y:fC}{D:bu}{m:a8}{I:aN}{M:List aC}{R:Type}
def MV{x:ak}{l:List ak}{K:a8->Option R}{r:R}(h:vr m x l K=some r):∃ m',K m'=some r/\m'.n=m.n/\(∀ id,m'.t.get id≠none->m.t.get id≠none\/True) /\
  ∀ {D:bu} {I:aN} {M:List aC} {u:Value} {vs:List Value},cE Y D m I M->aM D x u->bq D l vs ->
   ∃ (g off:Nat) (pre post:List aC) (arr:Array Value) (T:Nat),u=.pointer (some ⟨g,off,none⟩)/\M=pre++⟨g,.cells arr T (0,0)⟩::post/\off+vs.length<=arr.size/\gS vs=true /\ (∃ id e a,m.t.get id=some e/\D id=some a/\a.b=g) /\
    cE Y D m' I (pre++⟨g,.cells (bw arr.toList off vs).toArray T (0,0)⟩::post):=by
 unfold vr at h;split at h
 ·rename_i id off;split at h
  ·rename_i cs T eT ar;cases af:(Nat.ble (Nat.add off l.length) eT&&l.all ak.one)with
   |false=>rw[af]at h;cases h
   |true=>
    rw[af]at h;simp only[ba]at h;rw[bL]at af;have xj:off+l.length<=eT:=bB af.1;obtain⟨cs',U,aa⟩:=a4.vu l cs off;rw[U]at h;obtain⟨eB,ag,aK⟩:=a4.mU (some (fj.cells cs' T eT)) m.t id;rw[ag]at h;refine⟨_,h,rfl,λ_ _=>.inr trivial,fun {D I M u vs} hm ab ay=>?_⟩;obtain⟨a,aD,rfl⟩:=ab.ptr;have he:=hm.hy _ _ _ ar aD;obtain⟨arr,ap,a7,cm,aA,ae,iH⟩:=he;have hlen:=ay.len;obtain⟨pre,post,bQ⟩:=ss a7;have fe:off+vs.length<=arr.size:=by omega
    refine⟨a.b,off,pre,post,arr,T,by rw[ap,dK],bQ,fe,ay.one af.2,⟨id,_,a,ar,aD,rfl⟩,?_⟩;have fO:∀ x∈M,x.num≠a.b->x∈pre++⟨a.b,.cells (bw arr.toList off vs).toArray T (0,0)⟩::post:=λx ab av=>by
     rw[bQ]at ab;rcases en.1 ab with ab | ab;·exact en.2 (.inl ab)
     ·rcases dE.1 ab with rfl | ab
      ·exact(av rfl).elim
      ·exact en.2 (.inr (l' _ ab))
    refine hm.step (λi e hi=>(aK i e hi).imp (λq=>⟨q.1,mV q.2⟩) λq=>q) aD (bu.le_refl D) (λ_ _=>rfl) hm.h' (λ_ _ h=>h) (λi e bF bk hi lM x ab av=>fO x ab ?_) ?_ ?_;·rw[av];exact λaf=>bk (hm.inj _ _ _ _ _ _ hi ar lM aD af)
    ·have Et:(bw arr.toList off vs).length=arr.size:=by rw[MU (by simpa using fe)];simp
     refine .cells (bw arr.toList off vs).toArray ap (by simp) (by simp[Et];exact cm) (λi v hi Eu=>?_) (λi hi=>by simp[Et];exact ae i hi) iH;rw[ap,dK];simp only[xK];rw[TU (by simpa using fe)];rcases aa i v Eu with⟨aR,aV⟩ | ⟨aR,aV⟩;·have aL:=(ij.1 aV).1;rw[dv ⟨aR,by omega⟩];exact ay.get aV
     ·rw[dc (by omega)];have:=aA i v hi aV;rw[ap,dK]at this;simpa using this
    ·intro i e bF bk hi lM af;exact bk (hm.inj _ _ _ _ _ _ hi ar lM aD af)
  ·cases h
 ·cases h
def MW:∀ {l:List ak} {bs:List UInt8} {vs:List Value},Bg l=some bs->bq D l vs->vs=bs.map (λb=>.int .u8 b.toNat)
 |[],bs,vs,h,ay=>by simp only[Bg]at h;cases h;exact ay.lL
 |v::l,bs,vs,h,ay=>by
  unfold Bg at h;split at h;·rename_i e;cases e
  ·rename_i n cU e;cases e;cases af:Nat.ble n 255 with
   |false=>rw[af]at h;cases h
   |true=>
    rw[af]at h;simp only[ba]at h;split at h;·rename_i r an;cases h;obtain⟨x,xs,U,aa,rfl⟩:=ay.iU;have av:=bB af;rw[MW an aa,U.int];simp only[dA,uZ,and_true,Value.int.injEq,true_and];rw[UInt8.toNat_ofNat_of_lt' (show n<256 by omega)];rfl
    ·cases h
  ·cases h
inductive xk:TypeDesc->ak->Prop
 |int{k n}:xk (.int k) (.i k n)| str {l}:xk .string (.s l)
def TV(aH:cB P E){k:Nat}{y:ak}(h:HM (E k) y=true):∃ d,P.underlying k=some d/\xk d y:=by
 unfold HM at h;split at h
 ·rename_i e9 cd n ae;have:=IntKind.Ad h;subst this;obtain⟨d,hu,ai⟩:=(aH _ _ ae).e1;refine⟨d,hu,?_⟩;have:d=.int e9:=by cases d<;>simp_all[eW]
  subst this;exact .int
 ·rename_i l ae;obtain⟨d,hu,ai⟩:=(aH _ _ ae).e1;refine⟨d,hu,?_⟩;have:d=.string:=by cases d<;>simp_all[eW]
  subst this;exact .str
 ·cases h
def xk.isKey{d:TypeDesc}{y:ak}(h:xk d y)(aG:aM D y u):MapKept.IsKey d u:=by
 cases h with
 |int=>rw[aG.int];rfl| str=>rw[aG.str];trivial
def TW(a b:ByteArray):(a == b)=decide (a=b):=by rw[n5,MapKept.bytes_beq];simp
def Bv{d:TypeDesc}{y x:ak}{r:Bool}(h:xk d y)(aG:aM D y u)(ab:aM D x w)(he:Ba y x=some r):Instr.sameNow d u w=some r:=by
 cases h with
 | @int k n=>
  rw[aG.int];unfold Ba at he;split at he;·rename_i e;cases e
  ·rename_i cM a cp b e;cases e;obtain⟨U,aa⟩:=fS he;have:=IntKind.Ad U;subst this;cases aa;rw[ab.int];simp only[Instr.sameNow,o1,Bo];congr 1
  ·rename_i e;cases e
  ·cases he
 | @str l=>
  rw[aG.str];unfold Ba at he;split at he;·rename_i e;cases e
  ·rename_i e;cases e
  ·rename_i a b e;cases e;cases he;rw[ab.str];simp only[Instr.sameNow];rw[TW,H6,Bp]
  ·cases he
def TX{d:TypeDesc}{y:ak}{u:Value}(h:xk d y)(aG:aM D y u):∀ {es:List (ak×ak)} {l:List MapEntry} {r:Option ak} (i:Nat),oL D es l->Ec y es=some r ->
  match r with
  |none=>Instr.findNow d u l i=some none| some v=>∃ j w,Instr.findNow d u l i=some (some (j,w))/\aM D v w
 |[],_,r,i,.nil,ay=>by simp only[Ec]at ay;cases ay;rfl
 |(x,v)::es,_,r,i,.cons (e:=e) (l:=l) ae ah t,ay=>by
  simp only[Ec]at ay;split at ay;·rename_i he;cases ay;refine⟨i,e.val,?_,ah⟩;simp only[Instr.findNow,Bv h aG ae he]
  ·rename_i he;have a2:=TX h aG (i+1) t ay;simp only[Instr.findNow,Bv h aG ae he];exact a2
  ·cases ay
def TY{d:TypeDesc}{y v:ak}{u w:Value}(h:xk d y)(aG:aM D y u)(ah:aM D v w):∀ {es su:List (ak×ak)} {l:List MapEntry} (i:Nat),oL D es l->Ed y v es=some su -> (Instr.findNow d u l i=some none/\∀ b,oL D su (l++[{ key:=u,val:=w,born:=b }])) \/ ∃ j e,Instr.findNow d u l i=some (some (i+j,e.val))/\l[j]?=some e/\Instr.sameNow d u e.key=some true/\oL D su (l.modify j λe=>{ e with key:=u,val:=w })
 |[],su,_,i,.nil,ay=>by simp only[Ed]at ay;cases ay;exact .inl ⟨rfl,λb=>.cons aG ah .nil⟩
 |(x,k7)::es,su,_,i,.cons (e:=e) (l:=l) ae kO t,ay=>by
  simp only[Ed]at ay;split at ay
  ·rename_i he;cases ay;refine .inr ⟨0,e,?_,rfl,Bv h aG ae he,?_⟩
   ·simp only[Instr.findNow,Bv h aG ae he,o0]
   ·simp only[List.modify_zero_cons];exact .cons aG ah t
  ·rename_i he;split at ay
   ·rename_i r an;cases ay;rcases TY h aG ah (i+1) t an with⟨U,aa⟩ | ⟨j,a0,U,aa,ag,aK⟩
    ·refine .inl ⟨?_,λb=>.cons ae kO (aa b)⟩;simp only[Instr.findNow,Bv h aG ae he];exact U
    ·refine .inr ⟨j+1,a0,?_,by simpa using aa,ag,?_⟩
     ·simp only[Instr.findNow,Bv h aG ae he];rw[U];congr 3;omega
     ·simp only[List.modify_succ_cons];exact .cons ae kO aK
   ·cases ay
  ·cases ay
end
section
variable{P:Program}{w:World}
def adk{k e:Nat}(au:P.underlying t=some (.map k e)){d:TypeDesc}(ae:P.underlying k=some d)(tX:MapKept.IsKey d u){l:List MapEntry}(ar:w.heap[g]?=some (.map l.toArray clock))
  {q:Option (Nat×Value)} (aw:Instr.findNow d u l 0=some q) {inf:TypeInfo} {z:Value} (hi:P.info? e=some inf) (bd:inf.zero=some z) (ok:Bool) :
  (Instr.lookup t (.map (some g)) u ok).run P w=.ok (bif ok then .tuple #[(q.map (·.2)).getD z,.bool q.isSome]else(q.map (·.2)).getD z) w:=by
 have aA:(Instr.checkKey l.toArray.isEmpty 10000 k u).run P w=.ok () w:=De ae tX _ 9999;have u3:(Instr.findKey k u l).run P w=.ok q w:=Df ae aw;have H9:(zeroValue e).run P w=.ok z w:=by simp[zeroValue,typeInfo,hi,bd]
 unfold Instr.lookup;simp only[bM,run_underlying au,bx,Dd ar,cy,aA,u3];cases q with
 |none=>cases ok<;>simp[H9]
 |some p=>cases ok<;>simp
def adl{k e:Nat}(au:P.underlying t=some (.map k e)){d:TypeDesc}(ae:P.underlying k=some d){v:Value}(tX:MapKept.IsKey d u){l:List MapEntry}(ar:w.heap[g]?=some (.map l.toArray clock))
  (aw:Instr.findNow d u l 0=some none):(Instr.mapUpdate t (.map (some g)) u v).run P w=.ok () { w with heap:=w.heap.setIfInBounds g (.map (l++[({ key:=u,val:=v,born:=clock }:MapEntry)]).toArray (clock+1)) }:=by
 have aA:(Instr.checkKey false 10000 k u).run P w=.ok () w:=De ae tX _ 9999;have u3:(Instr.findKey k u l).run P w=.ok none w:=Df ae aw;unfold Instr.mapUpdate;simp only[bM,run_underlying au,bx,Dd ar,aA,u3,KE _ ar];congr 3;simp
def adm{k e:Nat}(au:P.underlying t=some (.map k e)){d:TypeDesc}(ae:P.underlying k=some d){v:Value}(tX:MapKept.IsKey d u){l:List MapEntry}(ar:w.heap[g]?=some (.map l.toArray clock))
 {a0:MapEntry} (aw:Instr.findNow d u l 0=some (some (j,a0.val))) (al:l[j]?=some a0) (ao:a0.key=u) :
  (Instr.mapUpdate t (.map (some g)) u v).run P w=.ok () { w with heap:=w.heap.setIfInBounds g (.map (l.modify j λe=>{ e with key:=u,val:=v }).toArray clock) }:=by
 have aA:(Instr.checkKey false 10000 k u).run P w=.ok () w:=De ae tX _ 9999;have u3:(Instr.findKey k u l).run P w=.ok (some (j,a0.val)) w:=Df ae aw;have dB:(Instr.keyThatStays u u).run P w=.ok u w:=MapKept.run_keyThatStays tX;unfold Instr.mapUpdate;simp only[bM,run_underlying au,bx,Dd ar,aA,u3];simp only[xK,al,kj,iZ,ao,dB,bx,KE _ ar];congr 3;show Obj.map _ _=Obj.map _ _;congr 1;apply fV;simp
end
section
variable{X:cx}{G:GT}{pr:j5}{D:bu}{m m':a8}{F:Fr}{aj:a4 ak}{C:c7}{I:aN}{M:List aC}{K:fG}{o:Oper}{v:ak}
def pH(X:cx)(G:GT)(pr:j5)(D:bu)(m:a8)(I:aN)(M:List aC)(v:ak)(m':a8)(dst:Option Nat)(F:Fr)(C:c7)(K:fG):Prop:=
 ∀ bf u M',D.ext bf m.n->aM bf v u->cE (df X G pr) bf m' I M'->K (put dst (.val u) F) C I M'
def adn(ap:o.op=.store t x y)(h:bK o.dst (HK (X.E t) m (cI aj x) (cI aj y)) (λ_=>none)=some (v,m'))(H:hL D F aj o.op.operands.toList)(hm:cE (df X G pr) D m I M)
  (k:pH X G pr D m I M v m' o.dst F C K):fX X o F C I M K:=by
 obtain⟨dst,op,ty,pos,after,guard⟩:=o;simp only at ap;subst ap;cases dst with
 |some d=>cases h
 |none=>
  have U:HK (X.E t) m (cI aj x) (cI aj y)=some (v,m'):=h;unfold HK at U;obtain⟨i,hi,U⟩:=ch U;obtain⟨a,ab,U⟩:=ch U;obtain⟨b,aG,U⟩:=ch U;obtain⟨af,U⟩:=fS U;obtain⟨m2,aa,-,-,ag⟩:=MV (Y:=df X G pr) U;cases aa;simp only at H;have ado:=H x (by simp[Op.operands]) _ ab;have kD:∀ q,a≠.b q:=λq e=>by subst e;cases U
  obtain⟨u,ax,aR⟩:=ado.tW kD;obtain⟨w,az,aV⟩:=H.bm (x:=y) (by simp[Op.operands]) aG;obtain⟨g,off,pre,post,arr,T,rfl,a7,fe,jb,⟨id,e,hX,j6,GR,ar⟩,kE⟩:=ag hm aR aV.cells;simp only[fX,hi,az,ax];have cm:Nat.beq w.cells.size i.size=true:=by have:=aV.cells.len;rw[ya]at this;rw[this];exact af
  rw[cm];simp only[ba];refine⟨pre,post,arr,T,a7,rfl,fe,jb,?_⟩;exact k D (.tuple #[]) _ bu.mX (by simp only[aM];exact⟨[],.nil,rfl⟩) kE
def TZ(ai:∀ d,o.dst=some d->d<X.n)(cf:∀ c,o.op≠.defer c)
  (h:∀ (β:Nat->Nat) (a:Act) (w:World),cc X β a w F C I M->∃ u w' I' M',(execOp a.eval o).run X.P w=.ok (.value u) w'/\cc X β a w' F C I' M'/\K (put o.dst (.val u) F) C I' M'):be X o F C I M K:=by
 refine⟨λa w Q ⟨β,aZ⟩=>?_⟩;obtain⟨u,w',I',M',U,aa,ag⟩:=h β a w aZ;exact hZ cf U ⟨_,_,_,_,⟨β,aa.put (x:=.val u) ai rfl⟩,ag⟩
def adp(ai:o.dst=none)(cf:∀ c,o.op≠.defer c)
  (h:∀ (β:Nat->Nat) (a:Act) (w:World),cc X β a w F C I M->∃ w' I' M',(execOp a.eval o).run X.P w=.ok .skip w'/\cc X β a w' F C I' M'/\K F C I' M'):be X o F C I M K:=by
 refine⟨λa w Q ⟨β,aZ⟩=>?_⟩;obtain⟨w',I',M',U,aa,ag⟩:=h β a w aZ;refine Aa cf U ⟨_,_,_,_,⟨β,?_⟩,ag⟩;rw[ai];exact aa
def T0(aH:cB X.P X.E)(ai:∀ d,o.dst=some d->d<X.n){r:Option Operand}(ap:o.op=.makeMap t r)(h:HL (X.E t) m=some (v,m'))(an:∀ x,r=some x->∃ k n,bm F x=.val (.int k n))(hm:cE (df X G pr) D m I M)
  (k:pH X G pr D m I M v m' o.dst F C K):be X o F C I M K:=by
 unfold HL at h;split at h
 ·rename_i sa qF sz e9 e au;obtain⟨d,e3,ff⟩:=(aH _ _ au).e1;have U:d=.map e9 e:=by cases d<;>simp_all[eW]
  subst U;obtain⟨eB,aa,ag⟩:=Er h;cases ag;refine TZ ai (by rw[ap];simp) fun β a w aZ=>?_;refine⟨.map (some w.heap.size),w.alloc (.map #[] 0),I,⟨w.heap.size,.map #[] 0⟩::M,?_,aZ.m7 _,?_⟩
  ·unfold execOp;cases r with
   |none=>simp[ap,Instr.makeMap]| some x=>obtain⟨cM,h6,ab⟩:=an x rfl;have K4:=cZ aZ.aj ab;simp[ap,K4,Instr.makeMap,run_underlying e3,asInt,ms]
  ·have aw:∀ x∈M,x.num≠w.heap.size:=aZ.holds.o4;refine k _ _ _ bu.Bu (by simp only[aM];exact⟨_,bu.pG _ _ ⟨w.heap.size,0,0⟩,rfl⟩) (hm.new (a:=⟨w.heap.size,0,0⟩) aa aw ?_);exact .map [] 0 (by simp) .nil
 ·cases h
def jT.T1{es:List (ak×ak)}(h:jT D E M a (.map es)):∃ l clock,(⟨a.b,.map l.toArray clock⟩:aC)∈M/\oL D es l:=by
 cases h with
 |map l clock U aa=>exact⟨l,clock,U,aa⟩
def aM.map'{id:Nat}(h:aM D (.m id) u):∃ a,D id=some a/\u=.map (some a.b):=by simpa only[aM]using h
def adq(aH:cB X.P X.E)(ai:∀ d,o.dst=some d->d<X.n){ok:Bool}(ap:o.op=.lookup t x y ok)(h:Ml X.P X.E t m (cI aj x) (cI aj y) ok=some (v,m'))(H:hL D F aj o.op.operands.toList)
  (hm:cE (df X G pr) D m I M) (k:pH X G pr D m I M v m' o.dst F C K):be X o F C I M K:=by
 unfold Ml at h;split at h
 ·rename_i sa qF sz e9 e id adr au U aa;obtain⟨tX,h⟩:=fS h;split at h
  ·rename_i es ar;obtain⟨r,an,h⟩:=ch h;obtain⟨inf,hi,h⟩:=ch h;obtain⟨z,bd,h⟩:=ch h;obtain⟨qZ,x1,h⟩:=ch h;cases h;obtain⟨d,e3,ff⟩:=(aH _ _ au).e1;have gi:d=.map e9 e:=by cases d<;>simp_all[eW]
   subst gi;obtain⟨lD,tw,zj⟩:=TV aH tX;rw[ap]at H;obtain⟨sj,ax,aR⟩:=H.bm (x:=x) (by simp[Op.operands]) U;obtain⟨pB,az,aV⟩:=H.bm (x:=y) (by simp[Op.operands]) aa;obtain⟨a,aD,rfl⟩:=aR.map';have he:=hm.hy _ _ _ ar aD;obtain⟨l,clock,a7,MX⟩:=he.T1;have rT:=TX zj aV 0 MX an;have H9:aM D qZ z:=.of x1;have fin:∀ {q:Option (Nat×Value)},Instr.findNow lD pB l 0=some q->(r=none/\q=none\/∃ rv j w,r=some rv/\q=some (j,w)/\aM D rv w)->be X o F C I M K:=fun {q} aw aE=>by
    refine TZ ai (by rw[ap];simp) fun β ac w aZ=>?_;have fb:=adk (P:=X.P) (w:=w) e3 tw (zj.isKey aV) (aZ.holds.m _ a7) aw hi bd ok;have ex:=cZ aZ.aj ax;have rX:=cZ aZ.aj az;refine⟨bif ok then .tuple #[(q.map (·.2)).getD z,.bool q.isSome]else(q.map (·.2)).getD z,w,I,M,?_,aZ,k D _ M bu.mX ?_ hm⟩;·unfold execOp;simp only[ap,ex,rX,bM,fb,bx,cy]
    ·unfold Tr;rcases aE with⟨rfl,rfl⟩ | ⟨rv,j,w',rfl,rfl,ah⟩
     ·cases ok
      ·exact H9
      ·exact .H2 (.cons H9 (.cons (by simp only[aM];rfl) .nil))
     ·cases ok
      ·exact ah
      ·exact .H2 (.cons ah (.cons (by simp only[aM];rfl) .nil))
   cases r with
   |none=>exact fin rT (.inl ⟨rfl,rfl⟩)| some rv=>obtain⟨j,w,aw,ah⟩:=rT;exact fin aw (.inr ⟨rv,j,w,rfl,rfl,ah⟩)
  ·cases h
 ·cases h
def T2(aH:cB X.P X.E){z:Operand}(ap:o.op=.mapUpdate t x y z\/o.op=.insert t x y z)(h:bK o.dst (Ee X.E t m (cI aj x) (cI aj y) (cI aj z)) (λ_=>none)=some (v,m'))(H:hL D F aj o.op.operands.toList)
  (hm:cE (df X G pr) D m I M) (k:pH X G pr D m I M v m' o.dst F C K):be X o F C I M K:=by
 cases Es:o.dst with
 |some d=>rw[Es]at h;cases h
 |none=>
  rw[Es]at h k;have aq:Ee X.E t m (cI aj x) (cI aj y) (cI aj z)=some (v,m'):=h;have s7:∀ q,q=x\/q=y\/q=z->q∈o.op.operands.toList:=λq aE=>by
   rcases ap with ap | ap<;>rw[ap]<;>simp[Op.operands]<;>exact aE
  unfold Ee at aq;split at aq
  ·rename_i sa qF sz e9 e id adr qZ au U aa ag;obtain⟨tX,aq⟩:=fS aq;split at aq
   ·rename_i es ar;obtain⟨su,jL,aq⟩:=ch aq;obtain⟨eB,aK,bg⟩:=a4.mU (some (fj.map su)) m.t id;have kr:(m.t.lK (some (fj.map su)) id λt=>some (ak.t [],(⟨t,m.n⟩:a8)))=some (v,m'):=aq;rw[aK]at kr;cases kr;obtain⟨d,e3,ff⟩:=(aH _ _ au).e1;have gi:d=.map e9 e:=by cases d<;>simp_all[eW]
    subst gi;obtain⟨lD,tw,zj⟩:=TV aH tX;obtain⟨sj,ax,aR⟩:=H.bm (x:=x) (s7 x (.inl rfl)) U;obtain⟨pB,az,aV⟩:=H.bm (x:=y) (s7 y (.inr (.inl rfl))) aa;obtain⟨wW,bc,bl⟩:=H.bm (x:=z) (s7 z (.inr (.inr rfl))) ag;obtain⟨a,aD,rfl⟩:=aR.map';have he:=hm.hy _ _ _ ar aD;obtain⟨l,clock,a7,MX⟩:=he.T1;have fin:∀ (cU:List MapEntry) (zk:Nat),oL D su cU->(∀ w:World,w.heap[a.b]?=some (.map l.toArray clock)->(Instr.mapUpdate t (.map (some a.b)) pB wW).run X.P w=.ok () { w with heap:=w.heap.setIfInBounds a.b (.map cU.toArray zk) }) ->
      be X o F C I M K:=λcU zk o7 fb=>by
     obtain⟨pre,post,bQ⟩:=ss a7;have iV:M.Perm (⟨a.b,.map l.toArray clock⟩::(pre++post)):=by rw[bQ];exact qy
     refine adp Es (by rcases ap with ap | ap<;>rw[ap]<;>simp) fun β ac w jh=>?_;have aZ:cc X β ac w F C I (⟨a.b,.map l.toArray clock⟩::(pre++post)):=jh.hA (.perm iV .refl);have vw:=jh.holds.m _ a7;have ex:=cZ aZ.aj ax;have rX:=cZ aZ.aj az;have K5:=cZ aZ.aj bc;have lU:=MapKept.heap_set (o':=Obj.map cU.toArray zk) vw;refine⟨_,I,⟨a.b,.map cU.toArray zk⟩::(pre++post),?_,aZ.swap (w':={ w with heap:=w.heap.setIfInBounds a.b (.map cU.toArray zk) }) (by simp) lU.1 lU.2 ⟨rfl,rfl⟩,?_⟩
     ·unfold execOp;rcases ap with ap | ap<;>simp only[ap,ex,rX,K5,bM,fb w vw,bx,cy]
     ·have uP:∀ q∈M,q.num≠a.b->q∈(⟨a.b,.map cU.toArray zk⟩:aC)::(pre++post):=λq aE av=>by
       rcases dE.1 (iV.mem_iff.1 aE)with rfl | aE;·exact(av rfl).elim
       ·exact l' _ aE
      refine k D (.tuple #[]) _ bu.mX (by simp only[aM];exact⟨[],.nil,rfl⟩) ?_;refine hm.step (λi e hi=>(bg i e hi).imp (λq=>⟨q.1,mV q.2⟩) λq=>q) aD (bu.le_refl D) (λ_ _=>rfl) hm.h' (λ_ _ h=>h) (λi e bF bk hi lM q aE av=>uP q aE ?_) (.map cU zk (by simp) o7) ?_;·rw[av];exact λaf=>bk (hm.inj _ _ _ _ _ _ hi ar lM aD af)
      ·exact λi e bF bk hi lM af=>bk (hm.inj _ _ _ _ _ _ hi ar lM aD af)
    rcases TY zj aV bl 0 MX jL with⟨aw,fO⟩ | ⟨j,a0,aw,al,ao,u'⟩;·exact fin _ (clock+1) (fO clock) λw vw=>adl e3 tw (zj.isKey aV) vw aw
    ·rw[dK]at aw;have qn:a0.key=pB:=by
      cases zj with
      |int=>
       have:=aV.int;subst this;cases ae:a0.key<;>rw[ae]at ao<;>simp[Instr.sameNow]at ao
       obtain⟨rfl,h⟩:=ao;rw[h]
      |str=>
       have:=aV.str;subst this;cases ae:a0.key<;>rw[ae]at ao<;>simp[Instr.sameNow,TW]at ao
       rw[ao]
     exact fin _ clock u' λw vw=>adm e3 tw (zj.isKey aV) vw aw al qn
   ·cases aq
  ·cases aq
end
section
variable{X:cx}{G:GT}{pr:j5}{D:bu}{m m':a8}{F:Fr}{aj:a4 ak}{C:c7}{I:aN}{M:List aC}{K:fG}{o:Oper}{v:ak}
def T3(aH:cB X.P X.E)(ai:∀ d,o.dst=some d->d<X.n){s d e:Nat}(ap:o.op=.convert s d x){cG b2:Nat}{sv:List Value}(ao:X.E s=some ⟨bN,cg,tV,.slice e⟩)(gi:X.E d=some ⟨cG,b2,sv,.string⟩)(af:Be (X.E e)=true)
  {id off n:Nat} (h:HN G m id off n=some (v,m')) (ab:∃ a c,D id=some a/\bm F x=.val (.slice (some ⟨a.b,a.o+off,none⟩) n c)) (hm:cE (df X G pr) D m I M)
  (k:pH X G pr D m I M v m' o.dst F C K):be X o F C I M K:=by
 unfold HN at h;obtain⟨a,c,aD,ex⟩:=ab;obtain⟨ad,l,vs,ax,bh,ay,h⟩:=xf (u:=.pointer (some ⟨a.b,a.o+off,none⟩)) hm (by simp only[aM];exact⟨a,aD,rfl⟩) h;cases ax;obtain⟨bs,Db,h⟩:=ch h;cases h;have hn:=MW Db ay;have hlen:bs.length=n:=by have:=bh.2;obtain⟨_,_,_,_,_,aa⟩:=this;rw[<-aa,hn];simp
 subst hn;obtain⟨aF,he,jL⟩:∃ aF,X.E e=some aF/\aF.bz=.int .u8:=by
  unfold Be at af;split at af;·rename_i h;exact⟨_,h,rfl⟩
  ·cases af
 refine be.AT aH ap ai ao rfl he jL gi rfl ex hlen bh ?_;exact k D _ M bu.mX (by simp only[aM]) hm
def ads(aH:cB X.P X.E)(ai:∀ d,o.dst=some d->d<X.n){s d:Nat}(ap:o.op=.convert s d x)(h:HO (df X G pr) m s d (cI aj x)=some (v,m'))(H:hL D F aj o.op.operands.toList)(hm:cE (df X G pr) D m I M)
  (k:pH X G pr D m I M v m' o.dst F C K):be X o F C I M K:=by
 unfold HO at h;rw[ap]at H;split at h
 ·rename_i U aa ag;obtain⟨af,h⟩:=fS h;obtain⟨u,ax,aR⟩:=H.bm (x:=x) (by simp[Op.operands]) ag;obtain⟨a,aD,rfl⟩:=aR.qE;exact T3 aH ai ap U aa af h ⟨a,_,aD,ax⟩ hm k
 ·rename_i U aa ag;obtain⟨af,h⟩:=fS h;obtain⟨u,ax,aR⟩:=H.bm (x:=x) (by simp[Op.operands]) ag;obtain⟨a,aD,_,rfl⟩:=aR.sr;exact T3 aH ai ap U aa af h ⟨a,_,aD,ax⟩ hm k
 ·rename_i U aa ag;obtain⟨af,h⟩:=fS h;obtain⟨u,ax,aR⟩:=H.bm (x:=x) (by simp[Op.operands]) ag;cases h;simp only[aM]at aR;subst aR;obtain⟨aF,he,jL⟩:∃ aF,X.E _=some aF/\aF.bz=.int .u8:=by
   unfold Be at af;split at af;·rename_i h;exact⟨_,h,rfl⟩
   ·cases af
  refine be.abK aH ap ai U rfl he jL aa rfl ax ?_;exact k D _ M bu.mX (by simp only[aM]) hm
 ·cases h
def T4(q:List UInt8):bq D (q.map λb=>ak.i .u8 (.ofNat b.toNat)) (jK ⟨q.toArray⟩):=by
 unfold jK;simp only
 induction q with
 |nil=>exact .nil| cons b q a2=>exact .cons (by simp only[aM];rfl) a2
def H'{l:List Operand}{a b:ak}(h:l9 aj l=some [a,b]):∃ x y,l=[x,y]/\cI aj x=some a/\cI aj y=some b:=by
 match l,h with
 |[],h=>simp[l9]at h
 |[x],h=>
  simp only[l9]at h;split at h;·rename_i ax az;cases az;cases h
  ·cases h
 |[x,y],h=>
  simp only[l9]at h;split at h
  ·rename_i ax az;split at az
   ·rename_i bc ct;cases ct;cases az;cases h;exact⟨x,y,rfl,ax,bc⟩
   ·cases az
  ·cases h
 |x::y::z::l,h=>
  simp only[l9]at h;split at h
  ·rename_i ax az;split at az
   ·rename_i bc ct;split at ct
    ·cases ct;cases az;cases h
    ·cases ct
   ·cases az
  ·cases h
def cE.sub{M':List aC}(h:cE (df X G pr) D m I M)(ao:∀ x∈M,x∈M'):cE (df X G pr) D m I M':=
 ⟨λid e a hi aD=>(h.hy id e a hi aD).mono (bu.le_refl D) (λx ab _=>ao x ab),h.inj,h.h',h.oI⟩
def adt(aH:cB X.P X.E)(ai:∀ d,o.dst=some d->d<X.n)(ap:o.op=.call { callee:=.builtin .copy,args:=args,argTypes:=ts })(h:Mn (df X G pr) m ts.toList (l9 aj args.toList)=some (v,m'))
  (H:hL D F aj args.toList) (hm:cE (df X G pr) D m I M) (k:pH X G pr D m I M v m' o.dst F C K):be X o F C I M K:=by
 unfold Mn at h;split at h
 ·rename_i t u id off n c q au ay;split at h
  ·rename_i sa qF sz e my;obtain⟨aF,he,h⟩:=ch h;obtain⟨af,h⟩:=fS h;rw[bL]at af;obtain⟨m2,aa,-,-,ag⟩:=MV (Y:=df X G pr) h;cases aa;obtain⟨x,y,kB,zl,adu⟩:=H' ay;obtain⟨sj,ab,aV⟩:=H.bm (x:=x) (by rw[kB];simp) zl;obtain⟨pB,aG,fP⟩:=H.bm (x:=y) (by rw[kB];simp) adu;obtain⟨a,aD,rfl⟩:=aV.qE;have adv:=fP.str;subst adv;obtain⟨g,FP,pre,post,arr,T,bc,a7,fe,jb,⟨hh,a0,hX,j6,GR,ar⟩,kE⟩:=ag hm (u:=.pointer (some ⟨a.b,a.o+off,none⟩)) (by simp only[aM];exact⟨a,aD,rfl⟩) (T4 q);cases bc;have iV:M.Perm (⟨a.b,.cells arr T (0,0)⟩::(pre++post)):=by rw[a7];exact qy
   have zm:args=#[x,y]:=by apply fV;simpa using kB
   have zn:ts=#[t,u]:=by apply fV;simpa using au
   have cm:(⟨q.toArray⟩:ByteArray).size=q.length:=by simp[ByteArray.size]
   have ls:(jK ⟨q.toArray⟩).length=q.length:=by simp[jK]
   refine be.Qg aH (by rw[ap,zm,zn]) ai my rfl he (cC af.1) ab aG (by rw[cm];exact bB af.2) (by rw[cm,<-ls];exact fe) iV ?_;rw[cm];have adw:(pre++(⟨a.b,.cells (bw arr.toList (a.o+off) (jK ⟨q.toArray⟩)).toArray T (0,0)⟩:aC)::post).Perm (⟨a.b,.cells (bw arr.toList (a.o+off) (jK ⟨q.toArray⟩)).toArray T (0,0)⟩::(pre++post)):=qy;exact k D (.int .i64 q.length) _ bu.mX (by simp only[aM];rfl) (kE.sub λx ab=>adw.mem_iff.1 ab)
  ·cases h
 ·cases h
end
section
variable{P:Program}{w:World}
def T5(t u ty e:Nat)(i:TypeInfo)(au:P.underlying t=some (.slice e))(hu:P.underlying u=some mD)(oi:∀ k,mD≠.int k)(hi:P.info? e=some i)
 {n c T:Nat} {arr:Array Value} (ar:w.heap[g]?=some (.cells arr T (0,0))) {x:Value} {m:Nat} (U:∀ v∈news,v.oneCell'=true)
  (hlen:∀ w',(Builtin.lenOf x).run P w'=.ok m w') (fO:(Builtin.firstCells i.size m x).run P w=.ok news.toArray w) (rb:n+m<=c) (fe:off+n*i.size+news.length<=arr.size) :
  (Builtin.append_ #[t,u] ty #[.slice (some ⟨g,off,none⟩) n c,x]).run P w=.ok (.slice (some ⟨g,off,none⟩) (n+m) c) (w.setRow g (bw arr.toList (off+n*i.size) news).toArray):=by
 have C0:(match mD with | .int _=>true | _=>false)=false:=by cases mD<;>first | rfl | exact(oi _ rfl).elim
 have dB:=run_storeCells_at P g (off+n*i.size) T news 0 arr w ar (by simpa using fe) U;simp only[o0]at dB;have MY:(Addr.add ⟨g,off,none⟩ (n*i.size))=⟨g,off+n*i.size,none⟩:=d' _ rfl _;simp[Builtin.append_,run_underlying au,run_underlying hu,sizeOf,typeInfo,hi,hlen,rb,fO,MY,dB,bw]
def adx(t u ty e:Nat)(i:TypeInfo)(z:Value)(au:P.underlying t=some (.slice e))(hu:P.underlying u=some mD)(oi:∀ k,mD≠.int k)(hi:P.info? e=some i)(bd:i.zero=some z)(uS:z.cells.size=i.size)
 {n c:Nat} (hold:(Builtin.firstCells i.size n (.slice base n c)).run P w.drew=.ok xs.toArray w.drew) (qG:xs.length=n*i.size) {x:Value} {m:Nat} (ay:news.length=m*i.size)
  (hlen:∀ w',(Builtin.lenOf x).run P w'=.ok m w') (fO:(Builtin.firstCells i.size m x).run P w.drew=.ok news.toArray w.drew) (rb:c<n+m) (cg:n+m<=maxLen) (b2:(n+m)*i.bytes<=140737488355328) :
  ∃ cap cur,(Builtin.append_ #[t,u] ty #[.slice base n c,x]).run P w=.ok (.slice (some ⟨w.heap.size,0,none⟩) (n+m) cap) (w.drew.alloc (.cells (xs++news++cur).toArray e (0,0)))/\n+m<=cap/\cap<=maxLen/\(xs++news++cur).length=cap*i.size:=by
 have C0:(match mD with | .int _=>true | _=>false)=false:=by cases mD<;>first | rfl | exact(oi _ rfl).elim
 have av:¬ (n+m<=c):=by omega
 have nr:n+m<=9223372036854775807:=by simp only[maxLen]at cg;exact cg
 have C1:¬ (9223372036854775807<((n:Int)+(m:Int))):=by omega
 have C2:¬ (281474976710656<Builtin.nextslicecap (n+m) c*i.bytes):=by have:=growslice_fits (by omega:c<n+m) b2;omega
 have c1:=grownCap_ge w (n+m) c e;have kW:grownCap w (n+m) c e<=maxLen:=grownCap_le_maxLen w (n+m) c e cg;refine⟨grownCap w (n+m) c e,(Builtin.zeroCells z.cells (grownCap w (n+m) c e-(n+m))).toList,?_,c1,kW,?_⟩
 ·simp[Builtin.append_,run_underlying au,run_underlying hu,sizeOf,typeInfo,zeroValue,hi,bd,hlen,av,C1,C2,Question.forced,fO,hold,newRow,grownCap];congr 2;apply fV;simp
 ·rw[ck,ck,qG,ay,ya,size_zeroCells,uS,<-jg,<-jg];congr 1;omega
end
section
variable{X:cx}{G:GT}{pr:j5}{D:bu}{m m':a8}{F:Fr}{aj:a4 ak}{C:c7}{I:aN}{M:List aC}{K:fG}{o:Oper}{v:ak}
def bE.MZ{ad:Addr}{n:Nat}{vs:List Value}(h:bE I M ad n vs){w:World}(h0:dU I M w)(j:Nat)(v:Value)(al:vs[j]?=some v):w.cell? (ad.add j)=some v:=by
 obtain⟨bQ,cs,T,aj,dP,ah,ay⟩:=h;rw[d' _ bQ,sX (dP.heap h0)];rw[<-ah,kK]at al;split at al
 ·rw[pX]at al;simpa using al
 ·cases al
def ady{x:ak}{k:Nat}{K:List ak->Option R}{r:R}(h:Bf G m.t x aF.size K=some r)(ao:tR ut aF x=true)(ab:aM D x u)(hm:cE (df X G pr) D m I M)(ae:qD x=some k)(aq:k≠0) :
  ∃ l vs,K l=some r/\bq D l vs/\(∀ w',(Builtin.lenOf u).run X.P w'=.ok k w')/\(∀ w,dU I M w->(Builtin.firstCells aF.size k u).run X.P w=.ok vs.toArray w)/\vs.length=k*aF.size /\
   ((∃ a b z e,ut=some ⟨a,b,z,.slice e⟩)\/∃ a b z,ut=some ⟨a,b,z,.string⟩):=by
 have M2:(∃ a b z e,ut=some ⟨a,b,z,.slice e⟩)\/∃ a b z,ut=some ⟨a,b,z,.string⟩:=by
  unfold tR at ao;split at ao<;>first | exact .inl ⟨_,_,_,_,rfl⟩ | exact .inr ⟨_,_,_,rfl⟩ | cases ao
 cases x<;>simp only[Bf]at h<;>first | cases h | skip
 case sn=>simp[qD,tQ]at ae;exact(aq ae.symm).elim
 case so=>simp[qD,tQ]at ae;exact(aq ae.symm).elim
 case sl id off n c=>
  simp only[qD,tQ,ki]at ae;subst ae;obtain⟨a,aD,rfl⟩:=ab.qE;obtain⟨ad,l,vs,ax,bh,ay,h⟩:=xf (u:=.pointer (some ⟨a.b,a.o+off,none⟩)) hm (by simp only[aM];exact⟨a,aD,rfl⟩) h;cases ax;have Ev:=bh;obtain⟨_,_,_,_,_,_,hlen⟩:=Ev;exact⟨l,vs,h,ay,λ_=>rfl,λw hw=>run_firstCells_some (P:=X.P) w aF.size n _ n c vs hlen (λj v al=>bh.MZ hw j v al),hlen,M2⟩
 case sx id off e n=>
  simp only[qD,tQ,ki]at ae;subst ae;obtain⟨a,aD,_,rfl⟩:=ab.sr;obtain⟨ad,l,vs,ax,bh,ay,h⟩:=xf (u:=.pointer (some ⟨a.b,a.o+off,none⟩)) hm (by simp only[aM];exact⟨a,aD,rfl⟩) h;cases ax;have Ev:=bh;obtain⟨_,_,_,_,_,_,hlen⟩:=Ev;exact⟨l,vs,h,ay,λ_=>rfl,λw hw=>run_firstCells_some (P:=X.P) w aF.size n _ n _ vs hlen (λj v al=>bh.MZ hw j v al),hlen,M2⟩
 case s q=>
  simp only[qD,ki]at ae;subst ae;have adz:aF.size=1:=by
   unfold tR at ao;split at ao<;>first | exact cC ao | (rename_i e;cases e) | cases ao
  have:=ab.str;subst this;have aE:(⟨q.toArray⟩:ByteArray).size=q.length:=by simp[ByteArray.size]
  refine⟨_,jK ⟨q.toArray⟩,h,T4 q,λw=>?_,λw hw=>?_,by simp[jK,adz],M2⟩;·show Result.ok _ _=_;rw[aE]
  ·have:=P4 w aF.size (P:=X.P) ⟨q.toArray⟩;rw[aE]at this;exact this
def M3(aH:cB X.P X.E)(ai:∀ d,o.dst=some d->d<X.n){u:Nat}(ap:o.op=.call { callee:=.builtin .append,args:=#[s,x],argTypes:=#[t,u] })
  {e:Nat} (au:X.E t=some ⟨bN,cg,tV,.slice e⟩) (hu:X.E u=some lW) (fm:∀ k,lW.bz≠.int k) (he:X.E e=some aF)
 {n c k:Nat} {M4:Value} (ao:bm F s=.val (.slice base n c)) (ab:bm F x=.val M4) (qG:xs.length=n*aF.size) (p6:news.length=k*aF.size) (U:gS news=true)
  (hlen:∀ w',(Builtin.lenOf M4).run X.P w'=.ok k w') (fO:∀ w,dU I M w->(Builtin.firstCells aF.size k M4).run X.P w=.ok news.toArray w)
  (hold:∀ w,dU I M w->(Builtin.firstCells aF.size n (.slice base n c)).run X.P w=.ok xs.toArray w) (cg:n+k<=maxLen) (b2:(n+k)*aF.bytes<=140737488355328)
  (adA:n+k<=c->∃ g off T arr pre post,base=some ⟨g,off,none⟩/\M=pre++⟨g,.cells arr T (0,0)⟩::post/\off+n*aF.size+news.length<=arr.size /\ K (put o.dst (.val (.slice base (n+k) c)) F) C I (pre++⟨g,.cells (bw arr.toList (off+n*aF.size) news).toArray T (0,0)⟩::post))
  (adB:c<n+k->∀ b cap cur,I b=none->(∀ y∈M,y.num≠b)->n+k<=cap->cap<=maxLen->(xs++news++cur).length=cap*aF.size ->
   K (put o.dst (.val (.slice (some ⟨b,0,none⟩) (n+k) cap)) F) C I (⟨b,.cells (xs++news++cur).toArray e (0,0)⟩::M)):be X o F C I M K:=by
 refine⟨λa w Q ⟨β,aZ⟩=>?_⟩;obtain⟨inf,z,hi,eA,gG,gH,iS⟩:=(aH _ _ he).inf;obtain⟨d,e3,ff⟩:=(aH _ _ hu).e1;obtain⟨lZ,nt,hE⟩:=(aH _ _ au).e1;have rW:lZ=.slice e:=by cases lZ<;>simp_all[eW]
 subst rW;have uS:z.cells.size=inf.size:=by rw[eA,<-(aH _ _ he).len,<-iS];simp
 have es:=cZ aZ.aj ao;have ex:=cZ aZ.aj ab;have oi:∀ k,d≠.int k:=λk a0=>fm k (by rw[<-ff,a0];rfl);rw[<-eA]at qG p6 hold fO;by_cases rb:n+k<=c
 ·obtain⟨g,off,T,arr,pre,post,rfl,a7,fe,ae⟩:=adA rb;rw[<-eA]at fe ae;have ar:w.heap[g]?=some (.cells arr T (0,0)):=aZ.holds.m ⟨g,.cells arr T (0,0)⟩ (by rw[a7];simp);have fb:=T5 (P:=X.P) (w:=w) t u o.type e inf nt e3 oi hi ar (xU U) hlen (fO w aZ.holds) rb fe;refine hZ (by rw[ap];simp) ?_ ⟨_,_,_,_,⟨β,cc.put (x:=.val (.slice (some ⟨g,off,none⟩) (n+k) c)) (aZ.vV a7) ai rfl⟩,ae⟩;unfold execOp;simp only[ap,resolve,invoke,builtin,bM,cy,bx,tc,dA,pi,es,ex,fb]
 ·have h0:dU I M w.drew:=aZ.holds.heap rfl;obtain⟨cap,cur,fb,aa,ag,aK⟩:=adx (P:=X.P) (w:=w) t u o.type e inf z nt e3 oi hi gH uS (hold w.drew h0) qG p6 hlen (fO w.drew h0) (by omega) cg (by rw[gG];exact b2);have nu:cc X β a w.drew F C I M:=aZ.world rfl;rw[eA]at aK;refine hZ (by rw[ap];simp) ?_ ⟨_,_,_,_,⟨β,cc.put (x:=.val (.slice (some ⟨w.heap.size,0,none⟩) (n+k) cap)) (nu.m7 (.cells (xs++news++cur).toArray e (0,0))) ai rfl⟩,adB (by omega) w.heap.size cap cur aZ.holds.p1 aZ.holds.o4 aa ag aK⟩;unfold execOp;simp only[ap,resolve,invoke,builtin,bM,cy,bx,tc,dA,pi,es,ex,fb]
def T6{u:Nat}{x:ak}(h:tR (X.E u) aF x=true):∃ lW,X.E u=some lW/\∀ k,lW.bz≠.int k:=by
 unfold tR at h;split at h<;>first | (cases h;done) | (rename_i e;exact⟨_,e,by simp⟩) | (rename_i e _;exact⟨_,e,by simp⟩) | (rename_i e _ _;exact⟨_,e,by simp⟩)
def adC{s:ak}(h:Bh s=true)(ao:aM D s u):∃ a n c,u=.slice a n c/\n<=c:=by
 cases s<;>simp only[Bh,iP]at h
 case sn=>exact⟨_,_,_,ao.zg,b6 _⟩
 case so=>obtain⟨a,c,rfl⟩:=ao.HZ;exact⟨_,_,_,rfl,bj _⟩
 case sl=>obtain⟨a,_,rfl⟩:=ao.qE;exact⟨_,_,_,rfl,bB h⟩
 case sx=>obtain⟨a,_,hle,rfl⟩:=ao.sr;exact⟨_,_,_,rfl,by omega⟩
def adD{x:ak}(ao:tR ut aF x=true)(ab:aM D x u)(ae:qD x=some 0):(∃ b c,u=.slice b 0 c)\/u=.string .empty:=by
 cases x<;>simp[qD,tQ]at ae
 case sn=>exact .inl ⟨_,_,ab.zg⟩
 case so=>obtain⟨a,c,rfl⟩:=ab.HZ;exact .inl ⟨_,_,rfl⟩
 case sl=>subst ae;obtain⟨a,_,rfl⟩:=ab.qE;exact .inl ⟨_,_,rfl⟩
 case sx=>subst ae;obtain⟨a,_,_,rfl⟩:=ab.sr;exact .inl ⟨_,_,rfl⟩
 case gs=>subst ae;exact .inl ⟨_,_,ab.MF⟩
 case s=>subst ae;exact .inr ab.str
noncomputable abbrev M5(X:cx)(G:GT)(m:a8)(s x:ak)(aF:dH)(kn e:Nat):List ak->Option (ak×a8):=λl=>bK (some kn) none λk=>bH (Nat.beq k 0) (bH (Bh s) (some (s,m)) none) (bH (l.all ak.one) (Eb G m s l k aF.size aF.bytes e) none)
def adE(aH:cB X.P X.E)(ai:∀ d,o.dst=some d->d<X.n){u:Nat}(ap:o.op=.call { callee:=.builtin .append,args:=#[os,oJ],argTypes:=#[t,u] })
 {e:Nat} (au:X.E t=some ⟨bN,cg,tV,.slice e⟩) {s x:ak} (pI:tR (X.E u) aF x=true) (he:X.E e=some aF) (ae:qD x=some 0) {us:Value}
  (es:bm F os=.val us) (gs:aM D s us) (ex:bm F oJ=.val kl) (xl:aM D x kl) (h:Bf G m.t x aF.size (M5 X G m s x aF 0 e)=some (v,m'))
  (hm:cE (df X G pr) D m I M) (k:pH X G pr D m I M v m' o.dst F C K):be X o F C I M K:=by
 have aa:∃ l,M5 X G m s x aF 0 e l=some (v,m'):=by
  cases x<;>simp only[Bf]at h<;>first | cases h | exact⟨_,h⟩ | skip
  case sl=>obtain⟨a,aD,rfl⟩:=xl.qE;obtain⟨_,l,_,_,_,_,h⟩:=xf (u:=.pointer (some ⟨a.b,a.o+_,none⟩)) hm (by simp only[aM];exact⟨a,aD,rfl⟩) h;exact⟨l,h⟩
  case sx=>obtain⟨a,aD,_,rfl⟩:=xl.sr;obtain⟨_,l,_,_,_,_,h⟩:=xf (u:=.pointer (some ⟨a.b,a.o+_,none⟩)) hm (by simp only[aM];exact⟨a,aD,rfl⟩) h;exact⟨l,h⟩
 obtain⟨l,aa⟩:=aa;have ag:bH (Bh s) (some (s,m)) none=some (v,m'):=aa;obtain⟨aA,ag⟩:=fS ag;cases ag;obtain⟨a,n,c,rfl,lY⟩:=adC aA gs;obtain⟨lW,hu,fm⟩:=T6 pI;exact be.Kw aH ap ai au rfl hu fm he es lY ex (adD pI xl ae) (k D _ M bu.mX gs hm)
def adF(aH:cB X.P X.E)(ai:∀ d,o.dst=some d->d<X.n){u:Nat}(ap:o.op=.call { callee:=.builtin .append,args:=#[os,oJ],argTypes:=#[t,u] })
 {e:Nat} (au:X.E t=some ⟨bN,cg,tV,.slice e⟩) (hu:X.E u=some lW) (fm:∀ k,lW.bz≠.int k) (he:X.E e=some aF) {us:Value} {id off n c kn:Nat}
  (es:bm F os=.val us) (gs:aM D (.sl id off n c) us) (ex:bm F oJ=.val kl) {l:List ak} {vs:List Value} (h:Mj G m id off n c l kn aF.size e=some (v,m')) (nr:n+kn<=maxLen) (m8:(n+kn)*aF.bytes<=140737488355328)
  (ay:bq D l vs) (qw:vs.length=kn*aF.size) (U:gS vs=true) (hlen:∀ w',(Builtin.lenOf kl).run X.P w'=.ok kn w') (fO:∀ w,dU I M w->(Builtin.firstCells aF.size kn kl).run X.P w=.ok vs.toArray w)
  (hm:cE (df X G pr) D m I M) (k:pH X G pr D m I M v m' o.dst F C K):be X o F C I M K:=by
 have Ew:∀ {q:List Value} {c:Nat},q.length=c*aF.size->∀ i,(df X G pr).E e=some i->q.length=c*i.size:=λaE i hi=>by have:X.E e=some i:=hi;rw[he]at this;cases this;exact aE
 obtain⟨a,aD,rfl⟩:=gs.qE;unfold Mj at h;by_cases an:n+kn<=c
 ·have af:Nat.ble (Nat.add n kn) c=true:=yN an;rw[af]at h;have a1:vr m (.p id (Nat.add off (Nat.mul n aF.size))) l (λm=>some (ak.sl id off (Nat.add n kn) c,m))=some (v,m'):=h;obtain⟨m2,aa,-,-,ag⟩:=MV (Y:=df X G pr) a1;cases aa;obtain⟨g,FP,pre,post,arr,T,ax,a7,fe,jb,⟨hh,a0,hX,j6,GR,ar⟩,kE⟩:=ag hm (u:=.pointer (some ⟨a.b,a.o+(off+n*aF.size),none⟩)) (by simp only[aM];exact⟨a,aD,rfl⟩) ay;cases ax;refine⟨λac w Q ⟨β,aZ⟩=>?_⟩;obtain⟨inf,z,hi,eA,gG,gH,iS⟩:=(aH _ _ he).inf;obtain⟨d,e3,ff⟩:=(aH _ _ hu).e1;obtain⟨lZ,nt,hE⟩:=(aH _ _ au).e1;have rW:lZ=.slice e:=by cases lZ<;>simp_all[eW]
  subst rW;have ar:w.heap[a.b]?=some (.cells arr T (0,0)):=aZ.holds.m ⟨a.b,.cells arr T (0,0)⟩ (by rw[a7];simp);have su:=cZ aZ.aj es;have zo:=cZ aZ.aj ex;rw[<-eA]at fO;have fb:=T5 (P:=X.P) (w:=w) t u o.type e inf nt e3 (λk a0=>fm k (by rw[<-ff,a0];rfl)) hi ar (xU U) hlen (fO w aZ.holds) an (off:=a.o+off) (by rw[eA];omega);rw[eA,mm]at fb;have nu:=aZ.vV (cs':=(bw arr.toList (a.o+(off+n*aF.size)) vs).toArray) a7;refine hZ (by rw[ap];simp) ?_ ⟨_,_,_,_,⟨β,cc.put (x:=.val (.slice (some ⟨a.b,a.o+off,none⟩) (n+kn) c)) nu ai rfl⟩,?_⟩;·unfold execOp;simp only[ap,resolve,invoke,builtin,bM,cy,bx,tc,dA,pi,su,zo,fb]
  ·exact k D _ _ bu.mX (by simp only[aM];exact⟨a,aD,rfl⟩) kE
 ·have af:Nat.ble (Nat.add n kn) c=false:=by
   cases af:Nat.ble (Nat.add n kn) c with
   |false=>rfl| true=>exact absurd (bB af) an
  rw[af]at h;have a1:tP G m.t (.p id off) (Nat.mul n aF.size) (λcY=>sp m (cY++l) e λid m=>some (ak.sx id 0 0 (Nat.add n kn),m))=some (v,m'):=h;obtain⟨ad,cY,xs,ax,bh,dX,aa⟩:=xf (u:=.pointer (some ⟨a.b,a.o+off,none⟩)) hm (by simp only[aM];exact⟨a,aD,rfl⟩) a1;cases ax;obtain⟨m2,bD,av,eg⟩:=MS (Y:=df X G pr) aa;cases bD;have Ev:=bh;obtain⟨_,_,_,_,_,_,lx⟩:=Ev;refine M3 aH ai ap au hu fm he es ex lx qw U hlen fO (λw hw=>run_firstCells_some (P:=X.P) w aF.size n _ n c xs lx (λj v al=>bh.MZ hw j v al)) nr m8 (λfH=>(an fH).elim) λ_ b cap cur a9 aw sw vg Ex=>?_;refine k _ _ _ bu.Bu ?_ (eg cur hm aw (dX.append ay) (Ew Ex) vg);simp only[aM];exact⟨_,bu.pG _ _ _,by simpa using sw,by simp⟩
def adG(aH:cB X.P X.E)(ai:∀ d,o.dst=some d->d<X.n){u:Nat}(ap:o.op=.call { callee:=.builtin .append,args:=#[os,oJ],argTypes:=#[t,u] })
 {e:Nat} (au:X.E t=some ⟨bN,cg,tV,.slice e⟩) (hu:X.E u=some lW) (fm:∀ k,lW.bz≠.int k) (he:X.E e=some aF) {us:Value} {id n eT kn:Nat} {cs:a4 ak}
  (es:bm F os=.val us) (gs:aM D (.sx id 0 0 n) us) (ex:bm F oJ=.val kl) (ar:m.t.get id=some (.cells cs e eT)) {l:List ak} {vs:List Value} (h:Mk m id n cs eT l kn aF.size e=some (v,m')) (nr:n+kn<=maxLen) (m8:(n+kn)*aF.bytes<=140737488355328)
  (ay:bq D l vs) (qw:vs.length=kn*aF.size) (U:gS vs=true) (hlen:∀ w',(Builtin.lenOf kl).run X.P w'=.ok kn w') (fO:∀ w,dU I M w->(Builtin.firstCells aF.size kn kl).run X.P w=.ok vs.toArray w)
  (hm:cE (df X G pr) D m I M) (k:pH X G pr D m I M v m' o.dst F C K):be X o F C I M K:=by
 obtain⟨a,aD,hle,rfl⟩:=gs.sr;have n8:=hm.hy _ _ _ ar aD;obtain⟨arr,vx,a7,cm,aA,ae,iH⟩:=n8;unfold Mk at h;obtain⟨xj,h⟩:=fS h;have T7:n*aF.size<=eT:=bB xj;obtain⟨t1,aa,ag⟩:=a4.mU (none:Option fj) m.t id;rw[aa]at h;obtain⟨cs',aK,bg⟩:=a4.vu l cs (Nat.mul n aF.size);have a1:a4.vo l cs (Nat.mul n aF.size) (λcs=>za (⟨t1,m.n⟩:a8) (.cells cs e (Nat.mul (Nat.add n kn) aF.size)) λid m=>some (ak.sx id 0 0 (Nat.add n kn),m))=some (v,m'):=h;rw[aK]at a1;obtain⟨t2,bD,eg⟩:=Er a1;cases eg;have kZ:∀ i eE,t1.get i=some eE->i≠id/\m.t.get i=some eE:=λi eE hi=>by
  rcases ag i eE hi with⟨_,eU⟩ | eU;·cases eU
  ·exact eU
 have T8:cE (df X G pr) D ⟨t1,m.n⟩ I M:=⟨λi eE b hi=>hm.hy i eE b (kZ i eE hi).2,λi fw eE xm b iq hi cT=>hm.inj i fw eE xm b iq (kZ i eE hi).2 (kZ fw xm cT).2,hm.h',hm.oI⟩;have T9:arr.size=a.c*aF.size:=by have:=ae aF he;rw[vx,dK]at this;exact this
 have HX:=ay.len;have qG:((arr.toList.take (n*aF.size)).length=n*aF.size):=by rw[nh,ya];omega
 have DB:∀ j,j<n*aF.size->∀ v,cs.get j=some v->∃ x,(arr.toList.take (n*aF.size))[j]?=some x/\aM D v x:=λj al v ah=>by obtain⟨x,aR,aV⟩:=aA j v (by omega) ah;rw[vx,dK]at aR;exact⟨x,by rw[kK,dv al];simpa using aR,aV⟩
 have T':∀ (bf:bu) (M':List aC) (b ey:Nat) (rest:List Value),D.le bf->(⟨b,.cells (arr.toList.take (n*aF.size)++vs++rest).toArray e (0,0)⟩:aC)∈M'->(arr.toList.take (n*aF.size)++vs++rest).length=ey*aF.size->ey<=maxLen ->
   jT bf X.E M' ⟨b,0,ey⟩ (.cells cs' e (Nat.mul (Nat.add n kn) aF.size)):=by
  intro bf M' b ey rest cH LL Ua adH;have hmul:(n+kn)*aF.size=n*aF.size+kn*aF.size:=jg _ _ _;refine .cells _ rfl LL ?_ (λi v hi Eu=>?_) (λi hi=>?_) adH;·show 0+(n+kn)*aF.size<=_;rw[oY,ck,ck,qG,qw];omega
  ·have cT:i<n*aF.size+kn*aF.size:=by have:i<(n+kn)*aF.size:=hi;omega
   simp only[dK,xK];rcases bg i v Eu with⟨aR,aV⟩ | ⟨aR,aV⟩;·have Ia:n*aF.size<=i:=aR;obtain⟨x,bl,fP⟩:=ay.get (i:=i-n*aF.size) aV;refine⟨x,?_,fP.mono cH⟩;rw[fN,ng (by omega),qG,kJ (by omega)];exact bl
   ·have Ia:i<n*aF.size:=by
     rcases aR with aR | aR;·exact aR
     ·have:n*aF.size+l.length<=i:=aR;omega
    obtain⟨x,bl,fP⟩:=DB i Ia v aV;refine⟨x,?_,fP.mono cH⟩;rw[fN,kJ (by omega)];exact bl
  ·rw[he]at hi;cases hi;simpa using Ua
 refine M3 aH ai ap au hu fm he es ex qG qw U hlen fO (λw hw=>?_) nr m8 (λan=>?_) λ_ b cap cur a9 aw sw vg Ex=>?_
 ·refine run_firstCells_some (P:=X.P) w aF.size n _ n _ _ qG λj v al=>?_;rw[d' _ rfl,sX (hw.m _ a7)];rw[kK]at al;split at al
  ·rw[vx];simpa using al
  ·cases al
 ·
  obtain⟨pre,post,bQ⟩:=ss a7;rw[xd]at an;have fe:a.o+0+n*aF.size+vs.length<=arr.size:=by have eK:=qP aF.size an;rw[jg]at eK;rw[vx,T9,qw];omega
  refine⟨a.b,a.o+0,e,arr,pre,post,rfl,bQ,fe,?_⟩;have Ub:bw arr.toList (a.o+0+n*aF.size) vs=arr.toList.take (n*aF.size)++vs++arr.toList.drop (n*aF.size+vs.length):=by rw[vx];simp only[bw,dK]
  rw[Ub];have uP:∀ q∈M,q.num≠a.b->q∈pre++(⟨a.b,.cells (arr.toList.take (n*aF.size)++vs++arr.toList.drop (n*aF.size+vs.length)).toArray e (0,0)⟩:aC)::post:=λq aE av=>by
   rw[bQ]at aE;rcases en.1 aE with aE | aE;·exact en.2 (.inl aE)
   ·rcases dE.1 aE with rfl | aE
    ·exact(av rfl).elim
    ·exact en.2 (.inr (l' _ aE))
  have Ey:∀ i eE b,t1.get i=some eE->D i=some b->b.b≠a.b:=λi eE b hi af tY=>(kZ i eE hi).1 (hm.inj _ _ _ _ _ _ (kZ i eE hi).2 ar af aD tY);refine k _ _ _ bu.Bu ?_ (T8.step (m:=⟨t1,m.n⟩) (j:=m.n) (λi eE hi=>(bD i eE hi).imp (λq=>⟨q.1,mV q.2⟩) λq=>q) (D.pG _ ⟨a.b,0,a.c⟩) (bu.xg _ hm.fresh) (λi hi=>by unfold bu.set;rw[dc hi]) (λi b af=>?_) (λ_ _ h=>h) (λi eE b bk hi af q aE av=>uP q aE (by rw[av];exact Ey i eE b hi af)) (T' _ _ _ _ (arr.toList.drop (n*aF.size+vs.length)) (bu.xg _ hm.fresh) (by simp) ?_ iH) λi eE b bk hi af=>Ey i eE b hi af);·simp only[aM];exact⟨_,bu.pG _ _ _,by simpa using an,by rw[vx];rfl⟩
  ·unfold bu.set at af;split at af
   ·show i<m.n+1;omega
   ·have:=hm.h' _ _ af;show i<m.n+1;omega
  ·rw[<-Ub,MU (by simpa using fe)];simpa using T9
 ·
  refine k _ _ _ bu.Bu ?_ (T8.new (m:=⟨t1,m.n⟩) (a:=⟨b,0,cap⟩) bD aw (T' _ _ _ _ _ (bu.xg _ hm.fresh) (by simp) Ex vg));simp only[aM];exact⟨_,bu.pG _ _ _,by simpa using sw,by simp⟩
def adI(aH:cB X.P X.E)(ai:∀ d,o.dst=some d->d<X.n){u:Nat}(ap:o.op=.call { callee:=.builtin .append,args:=#[os,oJ],argTypes:=#[t,u] })
 {e:Nat} (au:X.E t=some ⟨bN,cg,tV,.slice e⟩) {s x:ak} (pI:tR (X.E u) aF x=true) (he:X.E e=some aF) {kn:Nat} (ae:qD x=some kn) (aq:kn≠0) {us:Value}
  (es:bm F os=.val us) (gs:aM D s us) (ex:bm F oJ=.val kl) (xl:aM D x kl) (h:Bf G m.t x aF.size (M5 X G m s x aF kn e)=some (v,m'))
  (hm:cE (df X G pr) D m I M) (k:pH X G pr D m I M v m' o.dst F C K):be X o F C I M K:=by
 obtain⟨l,vs,aa,ay,hlen,fO,qw,_⟩:=ady (ut:=X.E u) h pI xl hm ae aq;have ag:bH (Nat.beq kn 0) (bH (Bh s) (some (s,m)) none) (bH (l.all ak.one) (Eb G m s l kn aF.size aF.bytes e) none)=some (v,m'):=aa;rw[gh aq]at ag;have aK:bH (l.all ak.one) (Eb G m s l kn aF.size aF.bytes e) none=some (v,m'):=ag;obtain⟨jb,aK⟩:=fS aK;have U:=ay.one jb;obtain⟨lW,hu,fm⟩:=T6 pI;have Ew:∀ {q:List Value} {c:Nat},q.length=c*aF.size->∀ i,(df X G pr).E e=some i->q.length=c*i.size:=λaE i hi=>by have:X.E e=some i:=hi;rw[he]at this;cases this;exact aE
 cases s<;>simp only[Eb]at aK<;>first | cases aK | skip
 case sn=>
  obtain⟨af,bg⟩:=fS aK;rw[bL]at af;obtain⟨m2,bD,av,eg⟩:=MS (Y:=df X G pr) bg;cases bD;have M6:=gs.zg;subst M6;have nr:0+kn<=maxLen:=by rw[dK];exact bB af.2
  have m8:(0+kn)*aF.bytes<=140737488355328:=by rw[dK];exact bB af.1
  refine M3 aH ai ap au hu fm he (n:=0) (c:=0) (xs:=[]) es ex (by simp) qw U hlen fO (λw _=>by simp[run_firstCells_none]) nr m8 (λan=>by omega) λ_ b cap cur a9 aw sw vg Ex=>?_;refine k _ _ _ bu.Bu ?_ (eg cur hm aw ay (Ew Ex) vg);simp only[aM];exact⟨_,bu.pG _ _ _,by simpa using sw,by simp⟩
 case sl=>
  obtain⟨af,bg⟩:=fS aK;rw[bL]at af;exact adF aH ai ap au hu fm he es gs ex bg (bB af.2) (bB af.1) ay qw U hlen fO hm k
 case sx=>
  split at aK;·rename_i ar;obtain⟨af,bg⟩:=fS aK;simp only[bL]at af;obtain⟨⟨dw,ef⟩,hV,tC,pz⟩:=af;have d1:=cC dw;have d2:=cC ef;have d3:=cC hV;subst d1;subst d2;subst d3;exact adG aH ai ap au hu fm he es gs ex ar bg (bB pz) (bB tC) ay qw U hlen fO hm k
  ·cases aK
def adJ(aH:cB X.P X.E)(ai:∀ d,o.dst=some d->d<X.n)(ap:o.op=.call { callee:=.builtin .append,args:=args,argTypes:=ts })(h:Mm (df X G pr) m ts.toList (l9 aj args.toList)=some (v,m'))
  (H:hL D F aj args.toList) (hm:cE (df X G pr) D m I M) (k:pH X G pr D m I M v m' o.dst F C K):be X o F C I M K:=by
 unfold Mm at h;split at h
 ·rename_i t u s x au ay;split at h
  ·rename_i sa qF sz e my;obtain⟨aF,he,h⟩:=ch h;obtain⟨pI,h⟩:=fS h;obtain⟨os,oJ,kB,fY,zl⟩:=H' ay;obtain⟨us,es,gs⟩:=H.bm (x:=os) (by rw[kB];simp) fY;obtain⟨kl,ex,xl⟩:=H.bm (x:=oJ) (by rw[kB];simp) zl;have zm:args=#[os,oJ]:=by apply fV;simpa using kB
   have zn:ts=#[t,u]:=by apply fV;simpa using au
   have pg:o.op=.call { callee:=.builtin .append,args:=#[os,oJ],argTypes:=#[t,u] }:=by rw[ap,zm,zn]
   cases ae:qD x with
   |none=>
    exfalso;unfold tR at pI;split at pI<;>first | (cases pI;done) | (simp[qD,tQ]at ae;done)
   |some kn=>
    rw[ae]at h;by_cases aq:kn=0;·subst aq;exact adE aH ai pg my pI he ae es gs ex xl h hm k
    ·exact adI aH ai pg my pI he ae aq es gs ex xl h hm k
  ·cases h
 ·cases h
end
section
variable{X:cx}{β:Nat->Nat}{F:Fr}{C:c7}{I:aN}{M:List aC}{o:Oper}{K:fG}
def M7(aH:cB P E){e:Nat}{c9:dH}(au:E t=some c9)(dg:c9.bz=.slice e):P.underlying t=some (.slice e):=by
 obtain⟨lZ,nt,hE⟩:=(aH _ _ au).e1;have rW:lZ=.slice e:=by rw[dg]at hE;cases lZ<;>simp_all[eW]
 rw[nt,rW]
def be.slice3(aH:cB X.P X.E)(ap:o.op=.slice t x (some lo) (some hi) (some mx))(ai:∀ d,o.dst=some d->d<X.n)
  {e:Nat} {c9:dH} (au:X.E t=some c9) (dg:c9.bz=.slice e) (he:X.E e=some aF) {n c:Nat} (l h m:Nat) {cM:IntKind}
  (ab:bm F x=.val (.slice ad n c)) (dX:bm F lo=.val (.int cM (l:Nat))) (eX:bm F hi=.val (.int cp (h:Nat))) (iH:bm F mx=.val (.int eD (m:Nat)))
  (U:l<=h) (aa:h<=m) (ag:m<=c) (k:K (put o.dst (.val (.slice (if m=l then ad else ad.map (·.add (l*aF.size))) (h-l) (m-l))) F) C I M):be X o F C I M K:=by
 refine⟨λa w Q ⟨β,aZ⟩=>?_⟩;have hu:=M7 aH au dg;refine hZ (by rw[ap];simp) (v:=.slice (if m=l then ad else ad.map (·.add (l*aF.size))) (h-l) (m-l)) (w':=w) ?_ ⟨_,_,_,_,⟨β,cc.put (x:=.val (.slice (if m=l then ad else ad.map (·.add (l*aF.size))) (h-l) (m-l))) aZ ai rfl⟩,k⟩;have ex:=cZ aZ.aj ab;have ax:=cZ aZ.aj dX;have az:=cZ aZ.aj eX;have bc:=cZ aZ.aj iH;simp only[execOp,ap,Instr.sliceAt,Instr.slice,Instr.sliceBounds,Instr.sliceBound,ex,bM,run_underlying hu,bx,(aH _ _ he).run_sizeOf,cy,kj,vS,ax,az,bc,ms];rw[dv ⟨by omega,by omega⟩];simp only[cy,bx,jA];rw[dv ⟨by omega,by omega⟩];simp only[cy,bx,jA];rw[dv ⟨by omega,by omega⟩];simp
def be.Uc(aH:cB X.P X.E)(ap:o.op=.slice t x none (some hi) (some mx))(ai:∀ d,o.dst=some d->d<X.n)
  {e:Nat} {c9:dH} (au:X.E t=some c9) (dg:c9.bz=.slice e) (he:X.E e=some aF) {n c:Nat} (h m:Nat)
  (ab:bm F x=.val (.slice ad n c)) (eX:bm F hi=.val (.int cp (h:Nat))) (iH:bm F mx=.val (.int eD (m:Nat)))
  (aa:h<=m) (ag:m<=c) (k:K (put o.dst (.val (.slice (if m=0 then ad else ad.map (·.add (0*aF.size))) (h-0) (m-0))) F) C I M):be X o F C I M K:=by
 refine⟨λa w Q ⟨β,aZ⟩=>?_⟩;have hu:=M7 aH au dg;refine hZ (by rw[ap];simp) (v:=.slice (if m=0 then ad else ad.map (·.add (0*aF.size))) (h-0) (m-0)) (w':=w) ?_ ⟨_,_,_,_,⟨β,cc.put (x:=.val (.slice (if m=0 then ad else ad.map (·.add (0*aF.size))) (h-0) (m-0))) aZ ai rfl⟩,k⟩;have ex:=cZ aZ.aj ab;have az:=cZ aZ.aj eX;have bc:=cZ aZ.aj iH;simp only[execOp,ap,Instr.sliceAt,Instr.slice,Instr.sliceBounds,Instr.sliceBound,ex,bM,run_underlying hu,bx,(aH _ _ he).run_sizeOf,cy,kj,vS,az,bc,ms];rw[dv ⟨by omega,by omega⟩];simp only[cy,bx,jA];rw[dv ⟨by omega,by omega⟩];simp only[cy,bx,jA]
def be.jU(aH:cB X.P X.E)(ap:o.op=.call { callee:=.builtin .append,args:=#[s,x],argTypes:=#[t,t] })(ai:∀ d,o.dst=some d->d<X.n)
  {e:Nat} {c9:dH} (au:X.E t=some c9) (dg:c9.bz=.slice e) (he:X.E e=some aF)
 {n c:Nat} (ao:bm F s=.val (.slice (some ⟨g,0,none⟩) n c)) (aA:cur.length=c*aF.size)
  {ad:Addr} {m c':Nat} (ab:bm F x=.val (.slice (some ad) m c')) (av:bE I M ad (m*aF.size) news) (U:gS news=true) (rb:n+m<=c)
  (pre post:List aC) (a7:M=pre++⟨g,.cells cur.toArray e (0,0)⟩::post)
  (k:K (put o.dst (.val (.slice (some ⟨g,0,none⟩) (n+m) c)) F) C I (pre++⟨g,.cells (bw cur (n*aF.size) news).toArray e (0,0)⟩::post)):be X o F C I M K:=by
 refine⟨λa w Q ⟨β,aZ⟩=>?_⟩;have hu:=M7 aH au dg;obtain⟨inf,z,hi,eA,gG,gH,iS⟩:=(aH _ _ he).inf;have ar:w.heap[g]?=some (.cells cur.toArray e (0,0)):=aZ.holds.m ⟨g,.cells cur.toArray e (0,0)⟩ (by rw[a7];simp);have ay:news.length=m*aF.size:=by obtain⟨_,_,_,_,_,_,h⟩:=av;exact h
 have fe:n*aF.size+news.length<=cur.length:=by rw[ay,aA,<-jg];exact qP _ rb
 have dB:=run_storeCells_at X.P g (n*aF.size) e news 0 cur.toArray w ar (by simpa using fe) (xU U);simp only[o0]at dB;have aw:(Builtin.firstCells aF.size m (.slice (some ad) m c')).run X.P w=.ok news.toArray w:=by
  obtain⟨bQ,cs,T,aj,dP,ah,ay⟩:=av;refine run_firstCells_some (P:=X.P) w aF.size m ad m c' news ay λj v al=>?_;rw[d' _ bQ,sX (dP.heap aZ.holds)];rw[<-ah,kK]at al;split at al;·rw[pX]at al;simpa using al
  ·cases al
 have es:=cZ aZ.aj ao;have ex:=cZ aZ.aj ab;refine hZ (by rw[ap];simp) (v:=.slice (some ⟨g,0,none⟩) (n+m) c) (w':=w.setRow g (bw cur (n*aF.size) news).toArray) ?_ ⟨_,_,_,_,⟨β,cc.put (x:=.val (.slice (some ⟨g,0,none⟩) (n+m) c)) ?_ ai rfl⟩,k⟩
 ·have fb:(Builtin.append_ #[t,t] o.type #[.slice (some ⟨g,0,none⟩) n c,.slice (some ad) m c']).run X.P w=.ok (.slice (some ⟨g,0,none⟩) (n+m) c) (w.setRow g (bw cur (n*aF.size) news).toArray):=by rw[<-eA]at aw dB |-;simp[Builtin.append_,Builtin.lenOf,run_underlying hu,sizeOf,typeInfo,hi,rb,aw,Addr.add_lit,dB,bw]
  unfold execOp;simp only[ap,resolve,invoke,builtin,bM,cy,bx,tc,dA,pi,es,ex,fb]
 ·exact aZ.vV a7
end
section
variable{X:cx}{G:GT}{pr:j5}{D:bu}{m m':a8}{F:Fr}{aj:a4 ak}{C:c7}{I:aN}{M:List aC}{K:fG}{o:Oper}{v:ak}
def adK(aH:cB X.P X.E)(ai:∀ d,o.dst=some d->d<X.n)(ap:o.op=.call { callee:=.builtin .unsafeString,args:=args,argTypes:=ts })(h:Mo (df X G pr) m ts.toList (l9 aj args.toList)=some (v,m'))
  (H:hL D F aj args.toList) (hm:cE (df X G pr) D m I M) (k:pH X G pr D m I M v m' o.dst F C K):be X o F C I M K:=by
 unfold Mo at h;split at h
 ·rename_i rU it au ay;cases h;obtain⟨op,on,kB,U,aa⟩:=H' ay;obtain⟨sj,ax,aR⟩:=H.bm (x:=op) (by rw[kB];simp) U;obtain⟨pB,az,aV⟩:=H.bm (x:=on) (by rw[kB];simp) aa;have zm:args=#[op,on]:=by apply fV;simpa using kB
  have zn:ts=#[rU,it]:=by apply fV;simpa using au
  have Ia:sj=.pointer none:=by simpa only[aM]using aR
  subst Ia;rw[aV.int]at az;refine be.Qf (by rw[ap,zm,zn]) ai ax az (k D _ M bu.mX ?_ hm);simp only[aM];rfl
 ·rename_i rU it id n au ay;split at h
  ·rename_i sa qF sz e cs T eT adL ar;obtain⟨aF,he,eg⟩:=ch h;obtain⟨af,eU⟩:=fS eg;simp only[bL]at af;obtain⟨op,on,kB,U,aa⟩:=H' ay;obtain⟨sj,ax,aR⟩:=H.bm (x:=op) (by rw[kB];simp) U;obtain⟨pB,az,aV⟩:=H.bm (x:=on) (by rw[kB];simp) aa;have zm:args=#[op,on]:=by apply fV;simpa using kB
   have zn:ts=#[rU,it]:=by apply fV;simpa using au
   rw[aV.int]at az;obtain⟨a,aD,rfl⟩:=aR.ptr;have n8:=hm.hy _ _ _ ar aD;obtain⟨arr,vx,a7,cm,aA,ae,iH⟩:=n8;have Ew:=cC af.2.1;subst Ew;unfold tP at eU;simp only[ar]at eU;cases M8:Nat.ble (Nat.add 0 n) eT with
   |false=>rw[M8]at eU;cases eU| true=>
   rw[M8]at eU;simp only[ba]at eU;have p6:0+n<=eT:=bB M8;obtain⟨l,dw,ef,eK⟩:=a4.Bn cs n 0 _ _ eU;obtain⟨bs,Db,rc⟩:=ch eK;obtain⟨Km,Ud⟩:=fS rc;obtain⟨t1,aK,bg⟩:=a4.mU (none:Option fj) m.t id;rw[aK]at Ud;cases Ud;have u1:(arr.toList.take n).length=n:=by rw[nh,ya];omega
   have adM:bq D l (arr.toList.take n):=bq.ME (by rw[u1,dw]) λi v hi=>by
    have e8:i<n:=by rw[<-dw];exact(ij.1 hi).1
    obtain⟨x,bl,fP⟩:=aA i v (by omega) (by have:=ef i e8;rw[dK]at this;rw[this,hi]);rw[vx,dK]at bl;exact⟨x,by rw[kK,dv e8];simpa using bl,fP⟩
   have hn:=MW Db adM;have ls:bs.length=n:=by have:=congrArg List.length hn;rw[u1]at this;simpa using this.symm
   obtain⟨pre,post,bQ⟩:=ss a7;have iV:M.Perm (⟨a.b,.cells arr T (0,0)⟩::(pre++post)):=by rw[bQ];exact qy
   have kq:arr.toList.take bs.length=bs.map λb=>Value.int .u8 b.toNat:=by rw[ls];exact hn
   have aq:bs≠[]:=λa0=>by subst a0;have:0<n:=bB af.2.2;simp at ls;omega
   have dy:bm F op=.val (.pointer (some ⟨a.b,0,none⟩)):=by rw[ax,vx]
   have dZ:bm F on=.val (.int .i64 bs.length):=by rw[az,ls];rfl
   refine be.Kl aH (by rw[ap,zm,zn]) ai adL rfl he (cC af.1) dy dZ aq (by rw[ls];exact bB Km) iV kq ?_;have kZ:∀ i eE,t1.get i=some eE->i≠id/\m.t.get i=some eE:=λi eE hi=>by
    rcases bg i eE hi with⟨_,eU⟩ | eU;·cases eU
    ·exact eU
   refine k D _ _ bu.mX (by simp only[aM]) ⟨λi eE b hi nr=>?_,λi fw eE xm b iq hi cT=>hm.inj i fw eE xm b iq (kZ i eE hi).2 (kZ fw xm cT).2,hm.h',hm.oI⟩;refine(hm.hy i eE b (kZ i eE hi).2 nr).mono (bu.le_refl D) λq aE av=>?_;rcases dE.1 (iV.mem_iff.1 aE)with rfl | aE;·exact((kZ i eE hi).1 (hm.inj _ _ _ _ _ _ (kZ i eE hi).2 ar nr aD av.symm)).elim
   ·exact aE
  ·cases h
 ·cases h
def adN(aH:cB X.P X.E)(ai:∀ d,o.dst=some d->d<X.n){v:ak}(ap:o.op=.slice t x (some lo) (some hi) (some mx))(h:Mg X.E t (cI aj x) (cI aj lo) (cI aj hi) (cI aj mx)=some v)
  (H:hL D F aj o.op.operands.toList) (hm:cE (df X G pr) D m I M) (k:∀ x,fs D x v->K (put o.dst x F) C I M):be X o F C I M K:=by
 unfold Mg at h;split at h
 ·rename_i sz g' z e id off n c cM l cp a1 eD e9 au ab dX eX iH;obtain⟨aF,he,eg⟩:=ch h;obtain⟨af,eU⟩:=fS eg;simp only[bL]at af;obtain⟨cg,b2,eQ,k3⟩:=af;cases eU;have cg:=bB cg;have b2:=bB b2;have eQ:=bB eQ;have k3:l+1<=e9:=bB k3;obtain⟨Lr,b7,xn⟩:=H.bm (x:=x) (by rw[ap];simp[Op.operands]) ab;obtain⟨sj,ax,aR⟩:=H.bm (x:=lo) (by rw[ap];simp[Op.operands]) dX;obtain⟨pB,az,aV⟩:=H.bm (x:=hi) (by rw[ap];simp[Op.operands]) eX;obtain⟨wW,bc,bl⟩:=H.bm (x:=mx) (by rw[ap];simp[Op.operands]) iH;rw[aR.int]at ax;rw[aV.int]at az;rw[bl.int]at bc;simp only[aM]at xn;obtain⟨a,aD,rfl⟩:=xn;refine be.slice3 aH ap ai au rfl he l a1 e9 b7 ax az bc cg b2 eQ (k _ (.val ?_));simp only[aM];refine⟨a,aD,?_⟩;rw[dc (by omega),kj,d' _ rfl];simp only[xe,Br,Bs,mm]
 ·cases h
def adO(aH:cB X.P X.E)(ai:∀ d,o.dst=some d->d<X.n){v:ak}(ap:o.op=.slice t x none (some hi) (some mx))(h:Mf X.E t (cI aj x) (cI aj hi) (cI aj mx)=some v)
  (H:hL D F aj o.op.operands.toList) (hm:cE (df X G pr) D m I M) (k:∀ x,fs D x v->K (put o.dst x F) C I M):be X o F C I M K:=by
 unfold Mf at h;split at h
 ·rename_i sz g' z e id off n c cp a1 eD e9 au ab eX iH;obtain⟨aF,he,eg⟩:=ch h;obtain⟨af,eU⟩:=fS eg;simp only[bL]at af;obtain⟨b2,eQ,k3⟩:=af;cases eU;have b2:=bB b2;have eQ:=bB eQ;have k3:0+1<=e9:=bB k3;obtain⟨Lr,b7,xn⟩:=H.bm (x:=x) (by rw[ap];simp[Op.operands]) ab;obtain⟨pB,az,aV⟩:=H.bm (x:=hi) (by rw[ap];simp[Op.operands]) eX;obtain⟨wW,bc,bl⟩:=H.bm (x:=mx) (by rw[ap];simp[Op.operands]) iH;rw[aV.int]at az;rw[bl.int]at bc;simp only[aM]at xn;obtain⟨a,aD,rfl⟩:=xn;refine be.Uc aH ap ai au rfl he a1 e9 b7 az bc b2 eQ (k _ (.val ?_));simp only[aM];refine⟨a,aD,?_⟩;rw[dc (by omega),kj,d' _ rfl];simp
 ·rename_i sz g' z e id off az n cp a1 eD e9 au ab eX iH;obtain⟨aF,he,eg⟩:=ch h;obtain⟨af,eU⟩:=fS eg;simp only[bL]at af;obtain⟨b2,eQ,k3⟩:=af;cases eU;have b2:=bB b2;have eQ:=bB eQ;have k3:0+1<=e9:=bB k3;obtain⟨Lr,b7,xn⟩:=H.bm (x:=x) (by rw[ap];simp[Op.operands]) ab;obtain⟨pB,az,aV⟩:=H.bm (x:=hi) (by rw[ap];simp[Op.operands]) eX;obtain⟨wW,bc,bl⟩:=H.bm (x:=mx) (by rw[ap];simp[Op.operands]) iH;rw[aV.int]at az;rw[bl.int]at bc;simp only[aM]at xn;obtain⟨a,aD,hle,rfl⟩:=xn;refine be.Uc aH ap ai au rfl he a1 e9 b7 az bc b2 (by omega) (k _ (.val ?_));simp only[aM];refine⟨a,aD,?_⟩;rw[dc (by omega),kj,d' _ rfl];simp
 ·cases h
def adP(ai:∀ d,o.dst=some d->d<X.n){v:ak}(ap:o.op=.unOp .xor t x)(h:Mh (cI aj x)=some v)(H:hL D F aj o.op.operands.toList)(k:∀ x,fs D x v->K (put o.dst x F) C I M):fX X o F C I M K:=by
 unfold Mh at h;split at h
 ·rename_i n ab;cases h;obtain⟨u,e,hu⟩:=H.bm (x:=x) (by rw[ap];simp[Op.operands]) ab;rw[hu.int]at e;have q:be X o F C I M K:=be.Da ap ai e (k _ (.val (by simp only[aM])));obtain⟨dst,zp,ty,pos,after,guard⟩:=o;simp only at ap;subst ap;exact q
 ·cases h
def adQ(ap:o.op=.slice t x none (some hi) (some mx))(k:be X o F C I M K):fX X o F C I M K:=by
 obtain⟨dst,zp,ty,pos,after,guard⟩:=o;simp only at ap;subst ap;simp only[fX,b5];split<;>first | exact k | (rename_i e;cases e)
def adR(ap:o.op=.slice t x (some lo) (some hi) (some mx))(k:be X o F C I M K):fX X o F C I M K:=by
 obtain⟨dst,zp,ty,pos,after,guard⟩:=o;simp only at ap;subst ap;simp only[fX,b5];split<;>first | exact k | (rename_i e;cases e)
def Ue:Op->Bool
 | .makeMap .. | .lookup .. | .mapUpdate .. | .insert ..=>true| .call { callee:=.builtin .append,.. }=>true| .call { callee:=.builtin .copy,.. }=>true| .call { callee:=.builtin .unsafeString,.. }=>true| _=>false
def xo{op:Op}(ap:o.op=op)(h:Ue op=true)(k:be X o F C I M K):fX X o F C I M K:=by
 obtain⟨dst,zp,ty,pos,after,guard⟩:=o;simp only at ap;subst ap;unfold Ue at h;split at h<;>first | exact k | cases h
def adS(aH:cB X.P X.E)(ai:∀ d,o.dst=some d->d<X.n)(h:Mp (df X G pr) m o aj=some (v,m'))(H:hL D F aj o.op.operands.toList)(hm:cE (df X G pr) D m I M)(k:pH X G pr D m I M v m' o.dst F C K):fX X o F C I M K:=by
 unfold Mp at h;split at h
 ·rename_i t x y ap;exact adn ap h H hm k
 ·rename_i t ap;exact xo ap rfl (T0 aH ai ap h (by simp) hm k)
 ·rename_i t x ap;split at h
  ·rename_i e9 n ab;refine xo ap rfl (T0 aH ai ap h (λy aG=>?_) hm k);cases aG;obtain⟨u,ax,aR⟩:=H.bm (x:=x) (by rw[ap];simp[Op.operands]) ab;rw[aR.int]at ax;exact⟨_,_,ax⟩
  ·cases h
 ·rename_i t x y ok ap;exact xo ap rfl (adq aH ai ap h H hm k)
 ·rename_i t x y z ap;exact xo ap rfl (T2 aH (.inl ap) h H hm k)
 ·rename_i t x y z ap;exact xo ap rfl (T2 aH (.inr ap) h H hm k)
 ·rename_i s d x ap;have M9:=ads aH ai ap h H hm k;obtain⟨dst,zp,ty,pos,after,guard⟩:=o;simp only at ap;subst ap;have lC:∃ a b z,X.E d=some ⟨a,b,z,.string⟩:=by
   unfold HO at h;split at h;·exact⟨_,_,_,by assumption⟩
   ·exact⟨_,_,_,by assumption⟩
   ·exact⟨_,_,_,by assumption⟩
   ·cases h
  obtain⟨a,b,z,lC⟩:=lC;simp only[fX,b5,lC];split;·rename_i e _;cases e
  ·exact M9
 ·rename_i b args ts ap;have Na:hL D F aj args.toList:=by rw[ap]at H;simpa[Op.operands,Call.operands]using H
  unfold Ts at h;split at h;·exact xo ap rfl (adJ aH ai ap h Na hm k)
  ·exact xo ap rfl (adt aH ai ap h Na hm k)
  ·exact xo ap rfl (adK aH ai ap h Na hm k)
  ·cases h
 ·cases h
end
def Ez(Y:fC)(call:ak->List ak->a8->Option (ak×a8)):Prop:=∀ f l m v m',call f l m=some (v,m')->∀ (D:bu) (I:aN) (M:List aC) (u:Value) (us:List Value),aM D f u->bq D l us->cE Y D m I M -> (∃ g bT cs,u=.func (.func g) bT cs/\Spec Y.P g (bT.toList++us++cs.toList) I M λr I' M'=>∃ bf,D.ext bf m.n/\aM bf v r/\cE Y bf m' I' M') \/ ∃ q,u=.func (.yield q) #[] #[]/\CS Y.P q us I M λr I' M'=>∃ bf,D.ext bf m.n/\aM bf v r/\cE Y bf m' I' M'
def sy(dst:Option Nat)(v:ak)(D:bu)(F dI:Fr):Prop:=(∀ d,dst=some d->fs D (dI d) v)/\∀ (D:bu) t k7,dst≠some t->fs D (F t) k7->fs D (dI t) k7
def sy.put{v:ak}{x:cW}(F:Fr)(h:fs D x v):sy dst v D F (put dst x F):=by
 constructor
 ·rintro d rfl;simpa[Go.V.put,fL]using h
 ·intro D t k7 bk h;cases dst with
  |none=>exact h| some d=>have:t≠d:=λe=>bk (by rw[e]);simp only[Go.V.put,fL,gh this,a5];exact h
def xh.v(h:xh dst u F dI){v:ak}(ah:aM D v u):sy dst v D F dI:=⟨λd ai=>by rw[h.1 d ai];exact .val ah,h.2⟩
section
variable{X:cx}{G:GT}{pr:j5}{D:bu}{m m':a8}{F:Fr}{aj:a4 ak}{C:c7}{I:aN}{M:List aC}{K:fG}{o:Oper}{v:ak}
def Ib(X:cx)(G:GT)(pr:j5)(o:Oper)(aj:a4 ak)(m:a8)(v:ak)(m':a8):Prop:=m.n<=m'.n/\∀ (D:bu) (F:Fr) (C:c7) (I:aN) (M:List aC) (K:fG),hL D F aj o.op.operands.toList->cE (df X G pr) D m I M -> (∀ bf dI C' I' M',D.ext bf m.n->sy o.dst v bf F dI->cE (df X G pr) bf m' I' M'->K dI C' I' M')->fX X o F C I M K
def adT{op:Op}(ap:o.op=op)(ae:jS X.E op=0)(h:b5 X op (cR F) C I M (λx=>K (put o.dst x F) C I M) (be X o F C I M K)):fX X o F C I M K:=by
 obtain⟨dst,zp,ty,pos,after,guard⟩:=o;simp only at ap;subst ap;cases zp with
 |call c=>
  obtain⟨callee,args,ts⟩:=c;cases callee with
  |value f=>simp[jS]at ae| invoke r n=>exact h| builtin b=>exact h
 |alloc t=>simp[jS]at ae| box t x=>simp[jS]at ae| store t x y=>simp[jS]at ae| buildSlice t l ps=>simp[jS]at ae| makeSlice t l c=>simp[jS]at ae| _=>exact h
def Uf(aH:cB X.P X.E)(ai:∀ d,o.dst=some d->d<X.n){v:ak}(ae:jS X.E o.op=0)(h:sm X.P X.E G m.t o.op aj=some v)(H:hL D F aj o.op.operands.toList)(hm:cE (df X G pr) D m I M)
  (k:∀ x,fs D x v->K (put o.dst x F) C I M):fX X o F C I M K:=by
 unfold sm at h;split at h
 ·rename_i t x ap;exact adP ai ap h H k
 ·rename_i t x lo hi mx ap;exact adR ap (adN aH ai ap h H hm k)
 ·rename_i t x hi mx ap;exact adQ ap (adO aH ai ap h H hm k)
 ·exact adT rfl ae (ac8 aH h H hm k)
def Nb{K:a4 ak->Option R}{r:R}(h:nO dst aj v K=some r):∃ cv,K cv=some r/\(dst=none->cv=aj)/\∀ d,dst=some d->∀ t w,cv.get t=some w->(t=d/\w=v)\/(t≠d/\aj.get t=some w):=by
 unfold nO at h;cases dst with
 |none=>exact⟨aj,h,λ_=>rfl,λd ai=>by cases ai⟩
 |some d=>
  have a1:(Mi v λv=>aj.lK (some v) d K)=some r:=h;rw[acE]at a1;obtain⟨cv,U,aa⟩:=a4.mU (some v) aj d;rw[U]at a1;refine⟨cv,a1,(λe=>by cases e),λrz ai t w hw=>?_⟩;cases ai;rcases aa t w hw with⟨ax,az⟩ | ⟨ax,az⟩;·exact .inl ⟨ax,(mV az).symm⟩
  ·exact .inr ⟨ax,az⟩
def Ug(aH:cB X.P X.E)(iR:∀ d,d<X.n->X.fM.contains d=true)(ai:∀ d,o.dst=some d->d<X.n)(kV:Ez (df X G pr) call){K:a4 ak->a8->Option R}{r:R}
  (h:w7 (df X G pr) call o aj m K=some r):∃ v m' cv,Ib X G pr o aj m v m'/\(nO o.dst aj v λaj=>K aj m')=some r/\K cv m'=some r/\(o.dst=none->cv=aj)/\∀ d,o.dst=some d->∀ t w,cv.get t=some w->(t=d/\w=v)\/(t≠d/\aj.get t=some w):=by
 have fin:∀ {v:ak} {m':a8},Ib X G pr o aj m v m'->(nO o.dst aj v λaj=>K aj m')=some r->∃ v m' cv,Ib X G pr o aj m v m'/\(nO o.dst aj v λaj=>K aj m')=some r/\K cv m'=some r/\(o.dst=none->cv=aj)/\∀ d,o.dst=some d->∀ t w,cv.get t=some w->(t=d/\w=v)\/(t≠d/\aj.get t=some w):=fun {v m'} aA aO=>by obtain⟨cv,U,aa,ag⟩:=Nb aO;exact⟨v,m',cv,aA,aO,U,aa,ag⟩
 unfold w7 at h;split at h
 ·
  rename_i f args ts ap;unfold Tt at h;obtain⟨adU,aw,h⟩:=ch h;obtain⟨l,ay,h⟩:=ch h;obtain⟨⟨v,m'⟩,aA,h⟩:=ch h;obtain⟨av,h⟩:=fS h;refine fin ⟨bB av,λD F C I M K jx hm ae=>?_⟩ h;rw[ap]at jx;obtain⟨u,ax,aR⟩:=jx.bm (x:=f) (by simp[Op.operands,Call.operands]) aw;obtain⟨us,az,aV⟩:=jx.kL (l:=args.toList) (by intro y aG;simp[Op.operands,Call.operands];exact .inr (by simpa using aG)) ay;obtain⟨dst,zp,ty,pos,after,guard⟩:=o;simp only at ap;subst ap;rcases kV _ _ _ _ _ aA D I M u us aR aV hm with⟨g,bT,cs,rfl,ao⟩ | ⟨q,rfl,ao⟩
  ·simp only[fX,ax,az];exact aT.whole _ ao λr I' M' a9 ab=>by obtain⟨bf,U,aa,ag⟩:=ab;exact ae bf _ C I' M' U (.put F (.val aa)) ag
  ·simp only[fX,ax,az];refine be.yield rfl ai ax az ⟨M,[],_,by simp,ao,λr I' M' a9 ab=>?_⟩;obtain⟨bf,U,aa,ag⟩:=ab;rw[fo];exact ae bf _ C I' M' U (.put F (.val aa)) ag
 ·rename_i op eO;unfold Tx at h;split at h
  ·rename_i fQ;unfold Tv at h;obtain⟨v,ah,h⟩:=ch h;refine fin ⟨b6 _,λD F C I M K jx hm ae=>?_⟩ h;exact Uf aH ai fQ ah jx hm λx ab=>ae D _ C I M bu.mX (.put F ab) hm
  ·unfold Tu at h;obtain⟨d,ff,h⟩:=ch h;obtain⟨⟨l,T,c,mk⟩,aD,h⟩:=ch h;obtain⟨m2,aa,av,ag⟩:=MS (Y:=df X G pr) h;refine fin (v:=mk m.n) (m':=m2) ⟨by omega,λD F C I M K jx hm ae=>?_⟩ (by rw[ff];exact aa);refine TS aH iR ai aD (by rw[ff];rfl) jx λb vs u dI C' a9 aw hn hlen aA hu Nc=>?_;have aK:=ag (vs:=vs) [] (b:=b) (c:=c) hm aw hn (by simpa using hlen) aA;rw[fo]at aK;exact ae _ dI C' I _ bu.Bu (Nc.v (hu _ _ (bu.pG _ _ _))) aK
  ·unfold Tw at h;obtain⟨⟨v,m'⟩,ab,h⟩:=ch h;obtain⟨av,h⟩:=fS h;refine fin ⟨bB av,λD F C I M K jx hm ae=>?_⟩ h;exact adS aH ai ab jx hm λbf u M' U aa ag=>ae bf _ C I M' U (.put F (.val aa)) ag
end
def jV(X:cx)(G:GT)(pr:j5)(D0:bu)(n0:Nat)(aj:a4 ak)(m:a8)(a:Act)(w:World):Prop:=
 ∃ D F C I M,Rel X a w F C I M/\oK D F aj/\cE (df X G pr) D m I M/\D0.ext D n0/\n0<=m.n
section
variable{X:cx}{G:GT}{pr:j5}{D0:bu}{n0:Nat}{m m':a8}{aj cv:a4 ak}{a:Act}{w:World}
def bu.Uh{n:Nat}(h:D.ext bf n)(a1:bf.ext H5 fB)(av:n<=fB):D.ext H5 n:=λi hi=>by rw[a1 i (by omega),h i hi]
def adV{ops:Array Oper}{o:Oper}(h:sq ops.toList o aj=some b)(cS:∀ t,dV β (F t) (a.tmps.getD t undef))(uH:oK D F aj):Region.wanted o (yielded ops a.tmps)=b:=by
 unfold sq at h;split at h
 ·rename_i ar;cases h;simp[Region.wanted,ar]
 ·rename_i j c ar;split at h
  ·cases h
  ·rename_i d al;have gm:(ops[j]?).bind (·.dst)=some d:=by rw[xc]at al;simpa using al
   have aG:=Cr gm a.tmps;split at h
   ·rename_i q aE;cases h;have ao:=uH _ _ aE;have ah:a.tmps.getD d undef=.bool q:=by
     have U:=cS d;rcases ao with⟨u,e,hu⟩ | ⟨eN,a0,e⟩;·rw[e]at U;rw[U,hu.bool]
     ·cases a0;rw[e]at U;exact U
    simp[Region.wanted,ar,aG,Ag ah]
   ·rename_i l aE;cases h;have ao:=uH _ _ aE;obtain⟨u,e,hu⟩:=ao.tW (by simp);obtain⟨vs,_,rfl⟩:=hu.MG;have U:=cS d;rw[e]at U;have x3:yielded ops a.tmps j=none:=by
     rw[aG];cases o8:a.tmps[d]? with
     |none=>rfl| some v=>simp only[dV,m6,o8,iZ]at U;subst U;rfl
    simp[Region.wanted,ar,x3]
   ·cases h
def Ui{o:Oper}{K:a4 ak->Option R}{r:R}(h:zd o aj K=some r):∃ cv,K cv=some r/\(o.dst=none->cv=aj)/\∀ d,o.dst=some d->∀ t w,cv.get t=some w->(t=d/\w=.t [])\/(t≠d/\aj.get t=some w):=by
 unfold zd at h;cases ai:o.dst with
 |none=>rw[ai]at h;exact⟨aj,h,λ_=>rfl,λd e=>by cases e⟩
 |some d=>
  rw[ai]at h;obtain⟨cv,U,aa⟩:=a4.mU (some (ak.t [])) aj d;simp only[U]at h;refine⟨cv,h,(λe=>by cases e),λrz gi t w hw=>?_⟩;cases gi;rcases aa t w hw with⟨ax,az⟩ | ⟨ax,az⟩;·exact .inl ⟨ax,(mV az).symm⟩
  ·exact .inr ⟨ax,az⟩
def oK.step{v:ak}(h:oK D F aj)(hle:D.le bf)(aO:sy dst v bf F dI)(U:dst=none->cv=aj)(aa:∀ d,dst=some d->∀ t w,cv.get t=some w->(t=d/\w=v)\/(t≠d/\aj.get t=some w)):oK bf dI cv:=λt u au=>by
 cases ai:dst with
 |none=>rw[U ai]at au;exact aO.2 bf t u (by rw[ai];simp) ((h t u au).mono hle)
 |some d=>
  rcases aa d ai t u au with⟨rfl,rfl⟩ | ⟨bk,ar⟩;·exact aO.1 _ ai
  ·exact aO.2 bf t u (by rw[ai];intro e;cases e;exact bk rfl) ((h t u ar).mono hle)
def Nd(aH:cB X.P X.E)(iR:∀ d,d<X.n->X.fM.contains d=true){call:ak->List ak->a8->Option (ak×a8)}(kV:Ez (df X G pr) call)(ops:Array Oper)(Q:Exit->Act->World->Prop)(km:∀ a w,jV X G pr D0 n0 cv m' a w->Q .normal a w):∀ (l:List Oper) (k:Nat),(∀ j,l[j]?=ops[k+j]?)->(∀ o∈l,∀ d,o.dst=some d->d<X.n)->∀ {aj m a w},Bi (df X G pr) call ops.toList l aj m=some (cv,m') -> jV X G pr D0 n0 aj m a w->wpOpsIn (fW X) 0 X.P ops Q (List.range' k l.length) a w
 |[],k,_,_,aj,m,a,w,h,ao=>by have a1:some (aj,m)=some (cv,m'):=h;cases a1;exact km _ _ ao
 |o::rest,k,ay,ai,aj,m,a,w,h,ao=>by
  have aq:ops[k]?=some o:=by simpa using(ay 0).symm
  have o7:∀ j,rest[j]?=ops[k+1+j]?:=λj=>by have:=ay (j+1);simpa[mm,FJ 1 j]using this
  have gi:∀ o∈rest,∀ d,o.dst=some d->d<X.n:=λo ap=>ai o (by simp[ap]);have v7:=ai o (by simp);have a1:bK (sq ops.toList o aj) none (λw=>bH w (w7 (df X G pr) call o aj m λaj m=>Bi (df X G pr) call ops.toList rest aj m) (zd o aj λaj=>Bi (df X G pr) call ops.toList rest aj m))=some (cv,m'):=h;obtain⟨b,af,a1⟩:=ch a1;obtain⟨D,F,C,I,M,⟨β,aZ⟩,cS,hm,ab,av⟩:=ao;have hw:=adV af aZ.aj cS;simp only[c5,List.range'_succ,wpOpsIn,aq];rw[hw];cases b with
  |true=>have aa:w7 (df X G pr) call o aj m (λaj m=>Bi (df X G pr) call ops.toList rest aj m)=some (cv,m'):=a1;obtain⟨v,c3,eL,⟨xp,EA⟩,-,ag,aR,aV⟩:=Ug aH iR v7 kV aa;simp only[o1];refine qQ (λbF w'=>?_) (Af aH v7 ⟨β,aZ⟩ (EA D F C I M (λdI C' I' M'=>∃ bf,D.ext bf m.n/\oK bf dI eL/\cE (df X G pr) bf c3 I' M') (cS.op _) hm λbf dI C' I' M' ax az bc=>⟨bf,ax,cS.step (hm.le ax) az aR aV,bc⟩));rintro⟨dI,C',I',M',fH,bf,ax,az,bc⟩;exact Nd aH iR kV ops Q km rest (k+1) o7 gi ag ⟨bf,dI,C',I',M',fH,az,bc,bu.Uh ab ax av,jB av xp⟩
  |false=>have aa:zd o aj (λaj=>Bi (df X G pr) call ops.toList rest aj m)=some (cv,m'):=a1;obtain⟨eL,ag,aR,aV⟩:=Ui aa;simp only[iP,jC];refine⟨λ_ _=>trivial,Nd aH iR kV ops Q km rest (k+1) o7 gi ag ⟨D,put o.dst (.val undef) F,C,I,M,⟨β,aZ.put (x:=.val undef) v7 rfl⟩,cS.step (bu.le_refl D) (.put F (.val .undef)) aR aV,hm,ab,av⟩⟩
end
def adW{X:cx}(aL:∀ j e,kS ops j e->e<j)(J:(Nat->Prop)->Act->World->Prop)(step:∀ (L:Nat->Prop) a w q o,J L a w->x7 ops L->(∀ i,L i->i<ops.length)->ops[q]?=some o->¬ L q->(∀ e,kS ops q e->L e) -> (Region.wanted o (yielded ops.toArray a.tmps)=true->o.wpIn (fW X) 0 X.P a w (J λj=>L j\/j=q) Q)/\(Region.wanted o (yielded ops.toArray a.tmps)=false->J (λj=>L j\/j=q) (a.put o.dst undef) w))
  (fin:∀ a w,J (λi=>i<ops.length) a w->Q .normal a w):∀ (de:Nat) (listed:Array Bool) (a:Act) (w:World),listed.size=ops.length->todo ops listed<=de->x7 ops (λi=>listed.getD i false=true) ->
   J (λi=>listed.getD i false=true) a w->wpAnyIn (fW X) 0 X.P .any ops.toArray Q de listed a w:=by
 have eT:∀ (listed:Array Bool) (i:Nat),listed.getD i false=true->i<listed.size:=λlisted i h=>by refine z5 λav=>?_;simp[Array.getD,av]at h
 have full:∀ (listed:Array Bool) a w,listed.size=ops.length->Region.ready .any ops.toArray listed=[]->J (λi=>listed.getD i false=true) a w->Q .normal a w:=λlisted a w cm mz bO=>by
  have all:∀ i,i<ops.length->listed.getD i false=true:=λi=>by
   induction i using Nat.strongRecOn with
   |ind i a2=>
    intro hi;refine z5 λav=>?_;have ap:ops[i]?=some ops[i]:=gu hi;have:i∈Region.ready .any ops.toArray listed:=(mem_ready cm).2 ⟨_,ap,av,λe he=>by
     have U:=aL i e he;exact a2 e U (by omega)⟩
    rw[mz]at this;cases this
  have e:(λi=>listed.getD i false=true)=λi=>i<ops.length:=by funext i;simp only[eq_iff_iff];exact⟨λh=>by have:=eT listed i h;omega,all i⟩
  rw[e]at bO;exact fin a w bO
 intro de
 induction de with
 |zero=>
  intro listed a w cm aw dL bO;have mz:Region.ready .any ops.toArray listed=[]:=by
   cases an:Region.ready .any ops.toArray listed with
   |nil=>rfl| cons i l=>obtain⟨o,ap,av,_⟩:=(mem_ready cm).1 (by rw[an];simp:i∈Region.ready .any ops.toArray listed);have:=Gg (ij.1 ap).1 cm av;omega
  exact⟨mz,full listed a w cm mz bO⟩
 |succ de a2=>
  intro listed a w cm aw dL bO;refine⟨λmz=>full listed a w cm mz bO,λq aE=>?_⟩;obtain⟨o,ap,av,ai⟩:=(mem_ready cm).1 aE;have bi:=(ij.1 ap).1;have lU:=P1 (listed:=listed) (i:=q) (by omega);have next:∀ bF w',J (λj=>listed.getD j false=true\/j=q) bF w'->wpAnyIn (fW X) 0 X.P .any ops.toArray Q de (listed.setIfInBounds q true) bF w':=λbF w' h=>by
   refine a2 _ bF w' (by simpa using cm) ?_ ?_ (by rw[lU];exact h);·have:=Gg bi cm av;omega
   ·rw[lU];rintro j e (al | rfl) he
    ·exact .inl (dL j e al he)
    ·exact .inl (ai e he)
  obtain⟨s1,s2⟩:=step _ a w q o bO dL (λi hi=>by have:=eT listed i hi;omega) ap av ai;have CH:ops.toArray[q]?=some o:=by simpa using ap
  unfold wpOpIn;simp only[CH];cases hw:Region.wanted o (yielded ops.toArray a.tmps)with
  |true=>
   simp only[o1];exact qQ next (s1 hw)
  |false=>simp only[iP,jC];exact⟨λ_ _=>trivial,next _ _ (s2 hw)⟩
def Uj{S:List a8}{lo hi:Nat}{p:a8->Bool}{m:a8}(h:Bl S lo hi p=true)(U:lo<=j)(aa:j<=hi)(al:S[j]?=some m):p m=true:=by unfold Bl at h;refine gq.1 h m ?_;refine vQ (i:=j-lo) ?_;rw[kK,dv (by omega),pX,show lo+(j-lo)=j by omega];exact al
def filter_le{p:α->Bool}:∀ {l:List α},(∀ q e,l[q]?=some e->p e=true->q<j)->(l.filter p).length<=j:=by
 intro l h;have ax:l.filter p=(l.take j).filter p:=by
  conv=>lhs;rw[<-uR j l]
  rw[Bq];have:(l.drop j).filter p=[]:=by rw[List.filter_eq_nil_iff];intro a aD aO;obtain⟨q,aE⟩:=He aD;rw[pX]at aE;have:=h _ _ aE aO;omega
  rw[this,fo]
 rw[ax];refine jB (xL _ _) ?_;simp;omega
def le_filter{p:α->Bool}{l:List α}(al:j<=l.length)(h:∀ q e,q<j->l[q]?=some e->p e=true):j<=(l.filter p).length:=by
 have ax:(l.take j).filter p=l.take j:=by
  rw[List.filter_eq_self];intro a aD;obtain⟨q,aE⟩:=He aD;rw[kK]at aE;split at aE;·exact h q a (by assumption) aE
  ·cases aE
 have az:l.filter p=(l.take j).filter p++(l.drop j).filter p:=by
  conv=>lhs;rw[<-uR j l]
  rw[Bq]
 rw[az,ax,ck,nh];omega
mutual
def Uk{D:bu}:∀ {x y:ak} {u:Value},Bk x y=true->aM D x u->aM D y u
 |x,y,u,h,ab=>by
  cases x<;>cases y<;>simp only[Bk,iP,bL]at h
  case b.b=>
   have:=eq_of_beq h;subst this;exact ab
  case i.i=>
   obtain⟨U,aa⟩:=h;have:=IntKind.Ad U;subst this;rw[Bo,ft]at aa;subst aa;exact ab
  case s.s=>
   rw[Bp,ft]at h;subst h;exact ab
  case pn.pn=>exact ab
  case p.p=>
   obtain⟨U,aa⟩:=h;have:=cC U;subst this;have:=cC aa;subst this;exact ab
  case g.g=>
   obtain⟨U,aa⟩:=h;have:=cC U;subst this;have:=cC aa;subst this;exact ab
  case sn.sn=>exact ab
  case sl.sl=>
   obtain⟨U,aa,ag,aK⟩:=h;have:=cC U;subst this;have:=cC aa;subst this;have:=cC ag;subst this;have:=cC aK;subst this;exact ab
  case sx.sx=>
   obtain⟨U,aa,ag,aK⟩:=h;have:=cC U;subst this;have:=cC aa;subst this;have:=cC ag;subst this;have:=cC aK;subst this;exact ab
  case gs.gs=>
   obtain⟨U,aa,ag,aK⟩:=h;have:=cC U;subst this;have:=cC aa;subst this;have:=cC ag;subst this;have:=cC aK;subst this;exact ab
  case mn.mn=>exact ab
  case m.m=>have:=cC h;subst this;exact ab
  case f.f=>
   obtain⟨U,aa,ag⟩:=h;have:=cC U;subst this;simp only[aM]at ab |-;obtain⟨vs,ws,aR,aV,bl⟩:=ab;exact⟨vs,ws,Bw aa aR,Bw ag aV,bl⟩
  case y.y=>have:=cC h;subst this;exact ab
  case fn.fn=>exact ab
  case ni.ni=>exact ab
  case t.t=>
   simp only[aM]at ab |-;obtain⟨vs,aR,aV⟩:=ab;exact⟨vs,Bw h aR,aV⟩
  case a.a=>
   simp only[aM]at ab |-;obtain⟨vs,aR,aV⟩:=ab;exact⟨vs,Bw h aR,aV⟩
def Bw{D:bu}:∀ {x y:List ak} {us:List Value},tT x y=true->bq D x us->bq D y us
 |[],[],us,h,ab=>ab| [],_::_,us,h,ab=>by simp[tT]at h
 |_::_,[],us,h,ab=>by simp[tT]at h
 |x::l,y::m,us,h,ab=>by simp only[tT,bL]at h;obtain⟨u,us,aR,aV,rfl⟩:=ab.iU;exact .cons (Uk h.1 aR) (Bw h.2 aV)
end
def EB(dst:Option Nat)(aj:a4 ak)(v:ak)(cv:a4 ak):Prop:=(dst=none->cv=aj)/\∀ d,dst=some d->∀ t w,cv.get t=some w->(t=d/\w=v)\/(t≠d/\aj.get t=some w)
def Ic(m m':a8)(l:List ak)(T:Nat):Prop:=m'.n=m.n+1/\(∀ id e,m'.t.get id=some e->id=m.n\/m.t.get id=some e)
def vy(m m':a8):Prop:=m.n<=m'.n/\∀ id e,id<m.n->m'.t.get id=some e->m.t.get id=some e
def vy.refl(m:a8):vy m m:=⟨b6 _,λ_ _ _ h=>h⟩
def vy.trans{a b c:a8}(h:vy a b)(k:vy b c):vy a c:=⟨jB h.1 k.1,λid e hi he=>h.2 id e hi (k.2 id e (Cc hi h.1) he)⟩
def Ic.grow{m m':a8}{l:List ak}{T:Nat}(h:Ic m m' l T):vy m m':=⟨by rw[h.1];omega,λid e hi he=>by
 rcases h.2 id e he with U | U
 ·omega
 ·exact U⟩
def adX{m:a8}{l:List ak}{T:Nat}{K:Nat->a8->Option R}{r:R}(h:sp m l T K=some r):∃ m',K m.n m'=some r/\Ic m m' l T:=by unfold sp at h;obtain⟨cs,U,aa⟩:=a4.vu l (.nil:a4 ak) 0;rw[U]at h;obtain⟨eB,ag,aK⟩:=Er h;exact⟨_,aK,rfl,λid e hi=>(ag id e hi).imp (λq=>q.1) λq=>q.2⟩
def cE.grow{m m':a8}(h:cE Y D m I M)(ar:vy m m'):cE Y D m' I M where
 hy id e a U aa:=h.hy id e a (ar.2 id e (h.h' _ _ aa) U) aa
 inj id hh e a0 a bF U h4 aa h3 af:=h.inj id hh e a0 a bF (ar.2 id e (h.h' _ _ aa) U) (ar.2 hh a0 (h.h' _ _ h3) h4) aa h3 af
 h' id a aa:=Cc (h.h' _ _ aa) ar.1
 oI:=h.oI
inductive j7(X:cx)(G:GT)(pr:j5)(ops:List Oper):List (Nat×Nat)->a4 ak->a8->List (Nat×ak)->a4 ak->a8->List a8->List oH->Prop
 |nil{aj m}:j7 X G pr ops [] aj m [] aj m [m] []| q {i o rest aj m v cv vs fT fD S A} (ap:ops[i]?=some o) (ae:jS X.E o.op=0) (hw:sq ops o aj=some true) (ah:sm X.P X.E G m.t o.op aj=some v) (aO:EB o.dst aj v cv) (t:j7 X G pr ops rest cv m vs fT fD S A) : j7 X G pr ops ((i,0)::rest) aj m ((i,v)::vs) fT fD S (bif oa o.op then .load i o aj v::A else A)| a {i o d rest aj m m' l T c mk cv vs fT fD S A} (ap:ops[i]?=some o) (ae:jS X.E o.op=1) (hw:sq ops o aj=some true) (ai:o.dst=some d) (ah:zc X.E o aj=some (l,T,c,mk)) (av:Ic m m' l T) (aO:EB o.dst aj (mk m.n) cv) (t:j7 X G pr ops rest cv m' vs fT fD S A) : j7 X G pr ops ((i,1)::rest) aj m ((i,mk m.n)::vs) fT fD S (.made i m.n l T::A)| e {i o rest aj m m' v cv vs fT fD S A} (ap:ops[i]?=some o) (ae:jS X.E o.op=2) (hw:sq ops o aj=some true) (aA:Ib X G pr o aj m v m') (aO:EB o.dst aj v cv) (t:j7 X G pr ops rest cv m' vs fT fD S A) : j7 X G pr ops ((i,2)::rest) aj m ((i,v)::vs) fT fD (m::S) A| skip {i k o rest aj m cv vs fT fD S A} (ap:ops[i]?=some o) (ae:jS X.E o.op=k) (hw:sq ops o aj=some false) (aO:EB o.dst aj (.t []) cv) (t:j7 X G pr ops rest cv m vs fT fD S A) : j7 X G pr ops ((i,k)::rest) aj m ((i,.t [])::vs) fT fD (bif Nat.beq k 2 then m::S else S) A
section
variable{X:cx}{G:GT}{pr:j5}{ops:List Oper}
def EC(aH:cB X.P X.E)(iR:∀ d,d<X.n->X.fM.contains d=true)(fa:∀ o∈ops,∀ d,o.dst=some d->d<X.n){call:ak->List ak->a8->Option (ak×a8)}(kV:Ez (df X G pr) call):∀ (row:List (Nat×Nat)) {aj:a4 ak} {m:a8} {ju:List a8} {mf:List oH} {fT:a4 ak} {fD:a8} {jR:List a8} {iI:List oH},mT (df X G pr) call ops row aj m ju mf=some (fT,fD,jR,iI)->∃ vs S A,j7 X G pr ops row aj m vs fT fD S A/\jR=S.reverse++ju/\(∀ h∈A,h∈iI)/\∀ h∈mf,h∈iI
 |[],aj,m,ju,mf,fT,fD,jR,iI,h=>by simp only[mT,ki,Prod.mk.injEq]at h;obtain⟨rfl,rfl,rfl,rfl⟩:=h;exact⟨[],[m],[],.nil,by simp,by simp,λ_ h=>h⟩
 |(i,k)::rest,aj,m,ju,mf,fT,fD,jR,iI,h=>by
  simp only[mT]at h;obtain⟨o,ap,h⟩:=ch h;obtain⟨w,hw,h⟩:=ch h;obtain⟨ae,h⟩:=fS h;rw[xc]at ap;have jt:jS X.E o.op=k:=cC ae;have v7:=fa o (vQ ap);cases w with
  |false=>
   have aa:zd o aj (λaj=>mT (df X G pr) call ops rest aj m (bH (Nat.beq k 2) (m::ju) ju) mf)=some (fT,fD,jR,iI):=h;obtain⟨eL,ag,aR,aV⟩:=Ui aa;obtain⟨vs,S,A,au,g4,ea,sA⟩:=EC aH iR fa kV rest ag;refine⟨_,_,_,.skip ap jt hw ⟨aR,aV⟩ au,?_,ea,sA⟩;rw[g4];cases Nat.beq k 2<;>simp[bH]
  |true=>
   have U:bH (Nat.beq k 0) (bK (sm X.P X.E G m.t o.op aj) none λv=>nO o.dst aj v λcv=>mT (df X G pr) call ops rest cv m ju (bH (oa o.op) (.load i o aj v::mf) mf)) (bH (Nat.beq k 1) (bK o.dst none λd=>bK (zc X.E o aj) none λr=>sp m r.1 r.2.1 λid m=>nO (some d) aj (r.2.2.2 id) λaj=>mT (df X G pr) call ops rest aj m ju (.made i id r.1 r.2.1::mf)) (w7 (df X G pr) call o aj m λaj m'=>mT (df X G pr) call ops rest aj m' (m::ju) mf))=some (fT,fD,jR,iI):=h;by_cases gy:k=0
   ·subst gy;have aa:(bK (sm X.P X.E G m.t o.op aj) none λv=>nO o.dst aj v λcv=>mT (df X G pr) call ops rest cv m ju (bH (oa o.op) (.load i o aj v::mf) mf))=some (fT,fD,jR,iI):=U;obtain⟨v,ah,aa⟩:=ch aa;obtain⟨eL,ag,aR,aV⟩:=Nb aa;obtain⟨vs,S,A,au,g4,ea,sA⟩:=EC aH iR fa kV rest ag;refine⟨_,_,_,.q ap jt hw ah ⟨aR,aV⟩ au,g4,λy aG=>?_,λy aG=>sA y ?_⟩
    ·cases ay:oa o.op with
     |false=>rw[ay]at aG;exact ea y aG
     |true=>
      rw[ay]at aG;rcases dE.1 aG with rfl | aG;·refine sA _ ?_;rw[ay];simp[bH]
      ·exact ea y aG
    ·cases oa o.op with
     |false=>exact aG| true=>exact l' _ aG
   rw[gh gy]at U;by_cases cM:k=1
   ·subst cM;have aa:(bK o.dst none λd=>bK (zc X.E o aj) none λr=>sp m r.1 r.2.1 λid m=>nO (some d) aj (r.2.2.2 id) λaj=>mT (df X G pr) call ops rest aj m ju (.made i id r.1 r.2.1::mf))=some (fT,fD,jR,iI):=U;obtain⟨d,ai,aa⟩:=ch aa;obtain⟨⟨l,T,c,mk⟩,aD,aa⟩:=ch aa;obtain⟨m2,ag,av⟩:=adX aa;have l6:nO o.dst aj (mk m.n) (λaj=>mT (df X G pr) call ops rest aj m2 ju (.made i m.n l T::mf))=some (fT,fD,jR,iI):=by rw[ai];exact ag
    obtain⟨eL,aK,aR,aV⟩:=Nb l6;obtain⟨vs,S,A,au,g4,ea,sA⟩:=EC aH iR fa kV rest aK;refine⟨_,_,_,.a ap jt hw ai aD av ⟨aR,aV⟩ au,g4,λy aG=>?_,λy aG=>sA y (l' _ aG)⟩;rcases dE.1 aG with rfl | aG;·exact sA _ (by simp)
    ·exact ea y aG
   ·rw[gh cM]at U;have aa:w7 (df X G pr) call o aj m (λaj m'=>mT (df X G pr) call ops rest aj m' (m::ju) mf)=some (fT,fD,jR,iI):=U;obtain⟨v,c3,eL,EA,-,ag,aR,aV⟩:=Ug aH iR v7 kV aa;obtain⟨vs,S,A,au,g4,ea,sA⟩:=EC aH iR fa kV rest ag;have wJ:k=2:=by
     have:jS X.E o.op<=2:=by
      unfold jS;split<;>first | omega | (split<;>first | omega | (split<;>omega))
     rw[jt]at this;omega
    subst wJ;exact⟨_,_,_,.e ap jt hw EA ⟨aR,aV⟩ au,by rw[g4];simp,ea,sA⟩
def j7.head{aj fT:a4 ak}{m fD:a8}{vs:List (Nat×ak)}{S:List a8}{A:List oH}(h:j7 X G pr ops row aj m vs fT fD S A):∃ m2 jR,S=m2::jR/\vy m m2:=by
 induction h with
 |nil=>exact⟨_,_,rfl,.refl _⟩| q _ _ _ _ _ _ a2=>exact a2| a _ _ _ _ _ av _ _ a2=>obtain⟨m2,jR,U,aa⟩:=a2;exact⟨m2,jR,U,av.grow.trans aa⟩
 |e _ _ _ _ _ _ _=>exact⟨_,_,rfl,.refl _⟩
 | @skip i k o rest aj m cv vs fT fD S A _ _ _ _ _ a2=>
  cases ae:Nat.beq k 2 with
  |true=>exact⟨_,_,rfl,.refl _⟩| false=>simpa using a2
def j7.Ie{aj fT:a4 ak}{m fD:a8}{vs:List (Nat×ak)}{S:List a8}{A:List oH}(h:j7 X G pr ops row aj m vs fT fD S A):m.n<=fD.n/\∀ i c l T,.made i c l T∈A->m.n<=c/\i∈row.map (·.1):=by
 induction h with
 |nil=>exact⟨b6 _,λ_ _ _ _ h=>by cases h⟩
 | @q i o rest aj m v cv vs fT fD S A _ _ _ _ _ _ a2=>
  refine⟨a2.1,λfw c l T hm=>?_⟩;have p5:.made fw c l T∈A:=by
   cases ay:oa o.op with
   |false=>rw[ay]at hm;exact hm
   |true=>
    rw[ay]at hm;rcases dE.1 hm with e | hm;·cases e
    ·exact hm
  exact⟨(a2.2 fw c l T p5).1,l' _ (a2.2 fw c l T p5).2⟩
 |a _ _ _ _ _ av _ _ a2=>
  refine⟨jB av.grow.1 a2.1,λfw c l T hm=>?_⟩;rcases dE.1 hm with e | hm;·cases e;exact⟨b6 _,by simp⟩
  ·exact⟨jB av.grow.1 (a2.2 fw c l T hm).1,l' _ (a2.2 fw c l T hm).2⟩
 |e _ _ _ aA _ _ a2=>exact⟨jB aA.1 a2.1,λfw c l T hm=>⟨jB aA.1 (a2.2 fw c l T hm).1,l' _ (a2.2 fw c l T hm).2⟩⟩| skip _ _ _ _ _ a2=>exact⟨a2.1,λfw c l T hm=>⟨(a2.2 fw c l T hm).1,l' _ (a2.2 fw c l T hm).2⟩⟩
def j7.split:∀ (pre:List (Nat×Nat)) {rest:List (Nat×Nat)} {aj fT:a4 ak} {m fD:a8} {vs:List (Nat×ak)} {S:List a8} {A:List oH},j7 X G pr ops (pre++rest) aj m vs fT fD S A -> ∃ tZ vz eL c3 sB vA oM,vs=tZ++vz/\tZ.map (·.1)=pre.map (·.1)/\S=sB++vA/\sB.length=(pre.filter λr=>Nat.beq r.2 2).length/\j7 X G pr ops rest eL c3 vz fT fD vA oM/\(∀ h∈oM,h∈A)/\m.n<=c3.n /\ (∀ t w,eL.get t=some w->(∃ i,(i,w)∈tZ/\hC ops i=some t)\/((∀ i∈pre.map (·.1),hC ops i≠some t)/\aj.get t=some w)) /\ (∀ i c l T,.made i c l T∈A->.made i c l T∈oM\/c<c3.n)
 |[],rest,aj,fT,m,fD,vs,S,A,h=>⟨[],vs,aj,m,[],S,A,rfl,rfl,rfl,rfl,h,λ_ h=>h,b6 _,λt w hw=>.inr ⟨by simp,hw⟩,λ_ _ _ _ h=>.inl h⟩
 |(i,k)::pre,rest,aj,fT,m,fD,vs,S,A,h=>by
  have fin:∀ {o:Oper} {cv:a4 ak} {m':a8} {v:ak} {p0:List (Nat×ak)} {jR S:List a8} {iI A:List oH},ops[i]?=some o->EB o.dst aj v cv->m.n<=m'.n->j7 X G pr ops (pre++rest) cv m' p0 fT fD jR iI -> (S=if Nat.beq k 2 then m::jR else jR)->(∀ h∈iI,h∈A)->(∀ i c l T,.made i c l T∈A->.made i c l T∈iI\/c<m'.n) ->
    ∃ tZ vz eL c3 sB vA oM,(i,v)::p0=tZ++vz/\tZ.map (·.1)=((i,k)::pre).map (·.1)/\S=sB++vA/\sB.length=(((i,k)::pre).filter λr=>Nat.beq r.2 2).length/\j7 X G pr ops rest eL c3 vz fT fD vA oM/\(∀ h∈oM,h∈A)/\m.n<=c3.n /\ (∀ t w,eL.get t=some w->(∃ i,(i,w)∈tZ/\hC ops i=some t)\/((∀ fw∈((i,k)::pre).map (·.1),hC ops fw≠some t)/\aj.get t=some w)) /\
     (∀ i c l T,.made i c l T∈A->.made i c l T∈oM\/c<c3.n):=by
   intro o cv m' v p0 jR S iI A ap aO xp au g4 ea DK;obtain⟨tZ,vz,eL,c3,sB,vA,oM,ax,az,bc,ct,ej,gz,iW,nQ,Bx⟩:=j7.split pre au;refine⟨(i,v)::tZ,vz,eL,c3,(if Nat.beq k 2 then m::sB else sB),vA,oM,by rw[ax];rfl,by simp[az],?_,?_,ej,λh bI=>ea h (gz h bI),jB xp iW,λt w hw=>?_,λi c l T hm=>?_⟩
   ·rw[g4,bc];split<;>simp
   ·simp only[vR];split<;>simp[ct]
   ·rcases nQ t w hw with⟨fw,U,aa⟩ | ⟨U,aa⟩
    ·exact .inl ⟨fw,l' _ U,aa⟩
    ·have oc:hC ops i=o.dst:=by simp[hC,ap]
     cases ai:o.dst with
     |none=>
      rw[aO.1 ai]at aa;refine .inr ⟨λfw cT=>?_,aa⟩;rcases dE.1 cT with e | cT;·rw[show fw=i from e,oc,ai];simp
      ·exact U fw cT
     |some d=>
      rcases aO.2 d ai t w aa with⟨rfl,rfl⟩ | ⟨bk,ag⟩;·exact .inl ⟨i,by simp,by rw[oc,ai]⟩
      ·refine .inr ⟨λfw cT=>?_,ag⟩;rcases dE.1 cT with e | cT
       ·rw[show fw=i from e,oc,ai];exact λe=>bk (by cases e;rfl)
       ·exact U fw cT
   ·rcases DK i c l T hm with U | U
    ·exact Bx i c l T U
    ·exact .inr (Cc U iW)
  cases h with
  |q ap ae hw ah aO t=>
   rename_i o v cv p0 iI;refine fin ap aO (b6 _) t (by simp) (λh bI=>?_) λi c l T hm=>?_
   ·cases oa o.op with
    |false=>exact bI| true=>exact l' _ bI
   ·cases ay:oa o.op with
    |false=>rw[ay]at hm;exact .inl hm
    |true=>
     rw[ay]at hm;rcases dE.1 hm with e | hm;·cases e
     ·exact .inl hm
  |a ap ae hw ai ah av aO t=>
   refine fin ap aO av.grow.1 t (by simp) (λh bI=>l' _ bI) λi c l T hm=>?_;rcases dE.1 hm with e | hm;·cases e;exact .inr (by rw[av.1];omega)
   ·exact .inl hm
  |e ap ae hw aA aO t=>exact fin ap aO aA.1 t (by simp) (λ_ h=>h) λ_ _ _ _ h=>.inl h
  |skip ap ae hw aO t=>exact fin ap aO (b6 _) t (by cases Nat.beq k 2<;>rfl) (λ_ h=>h) λ_ _ _ _ h=>.inl h
end
section
variable{ops:List Oper}
def adY{i k:Nat}{o:Oper}(ap:ops[i]?=some o)(h:CB o k=true):∀ e,kS ops i e->k.testBit e=true:=by rintro e⟨o',jd,pg,pd,af,rfl⟩;rw[ap]at pg;cases pg;have:=gq.1 h jd (by simpa using pd);rw[af]at this;simpa using this
def If:∀ {row:List (Nat×Nat)} {k:Nat},tS ops row k=true->∀ (pre:List (Nat×Nat)) (i c:Nat) (post:List (Nat×Nat)),row=pre++(i,c)::post -> (∃ o,ops[i]?=some o)/\k.testBit i=false/\i ∉ pre.map (·.1)/\∀ e,kS ops i e->k.testBit e=true\/e∈pre.map (·.1)
 |[],k,h,pre,i,c,post,e=>by simp at e
 |(i0,hJ)::row,k,h,pre,i,c,post,e=>by
  simp only[tS,bL,n4]at h;obtain⟨U,aa⟩:=h;split at aa
  ·rename_i o ap;rw[bL]at aa;cases pre with
   |nil=>simp only[nj,uZ,Prod.mk.injEq]at e;obtain⟨⟨rfl,rfl⟩,rfl⟩:=e;exact⟨⟨o,ap⟩,U,by simp,λe he=>.inl (adY ap aa.1 e he)⟩
   |cons p pre=>
    simp only[p7,uZ]at e;obtain⟨ax,az⟩:=e;obtain⟨aR,aV,bl,fP⟩:=If aa.2 pre i c post az;have af:∀ x,(k ||| 2^i0).testBit x=(k.testBit x||decide (x=i0)):=λx=>by rw[FH,Cb];congr 1;exact decide_eq_decide.2 eq_comm
    rw[af,lq]at aV;refine⟨aR,aV.1,?_,λe he=>?_⟩;·rw[<-ax];simp only[dA,dE,not_or];exact⟨by simpa using aV.2,bl⟩
    ·rcases fP e he with h | h
     ·rw[af,jY]at h;rcases h with h | h
      ·exact .inl h
      ·exact .inr (by rw[<-ax];simp at h;simp[h])
     ·exact .inr (by rw[dA];exact l' _ h)
  ·cases aa
def Nf:∀ {row:List (Nat×Nat)} {k:Nat},tS ops row k=true->∀ i,i<ops.length->k.testBit i=true\/i∈row.map (·.1)
 |[],k,h,i,hi=>by
  simp only[tS]at h;have:=cC h;subst this
  left
  rw[MI];simpa using hi
 |(i0,hJ)::row,k,h,i,hi=>by
  simp only[tS,bL,n4]at h;obtain⟨U,aa⟩:=h;split at aa
  ·rw[bL]at aa;rcases Nf aa.2 i hi with h | h
   ·rw[FH,Cb,jY]at h;rcases h with h | h
    ·exact .inl h
    ·have:i0=i:=by simpa using h
     exact .inr (by simp[this])
   ·exact .inr (by rw[dA];exact l' _ h)
  ·cases aa
def adZ(h:tS ops row 0=true):(row.map (·.1)).Nodup:=by
 have key:∀ {row:List (Nat×Nat)} {k:Nat},tS ops row k=true->(row.map (·.1)).Nodup:=by
  intro row
  induction row with
  |nil=>intro k _;exact xP
  |cons r row a2=>
   intro k h;obtain⟨i0,hJ⟩:=r;have a1:=h;simp only[tS,bL,n4]at h;obtain⟨U,aa⟩:=h;split at aa;·rw[bL]at aa;rw[dA,lg];refine⟨λhm=>?_,a2 aa.2⟩;obtain⟨⟨x,c⟩,ab,Ng⟩:=du.1 hm;obtain⟨pre,post,e⟩:=ss ab;have Nh:x=i0:=Ng;subst Nh;have:=(If a1 ((x,hJ)::pre) x c post (by rw[e];rfl)).2.2.1;exact this (by simp)
   ·cases aa
 exact key h
def Ul{α β:Type}:∀ {l:List (α×β)},(l.map (·.1)).Nodup->∀ {k:α} {a b:β},(k,a)∈l->(k,b)∈l->a=b
 |[],_,k,a,b,h,_=>by cases h
 |(gy,c)::l,av,k,a,b,h,a1=>by
  rw[dA,lg]at av;rcases dE.1 h with e | h
  ·cases e;rcases dE.1 a1 with a0 | a1
   ·cases a0;rfl
   ·exact(av.1 (du.2 ⟨_,a1,rfl⟩)).elim
  ·rcases dE.1 a1 with a0 | a1
   ·cases a0;exact(av.1 (du.2 ⟨_,h,rfl⟩)).elim
   ·exact Ul av.2 h a1
end
section
variable{X:cx}{G:GT}{pr:j5}{D0:bu}{n0:Nat}{a:Act}{w:World}
def Ig{o:Oper}{aj:a4 ak}(h:sq ops o aj=some b)(cS:∀ t,dV β (F t) (a.tmps.getD t undef))(H:∀ t∈looks ops o,∀ v,aj.get t=some v->fs D (F t) v) :
  Region.wanted o (yielded ops.toArray a.tmps)=b:=by
 unfold sq at h;split at h
 ·rename_i ar;cases h;simp[Region.wanted,ar]
 ·rename_i j c ar;split at h
  ·cases h
  ·rename_i d al;have gm:(ops[j]?).bind (·.dst)=some d:=by rw[xc]at al;simpa using al
   have ad0:(ops.toArray[j]?).bind (·.dst)=some d:=by simpa using gm
   have aG:=Cr ad0 a.tmps;have rT:d∈looks ops o:=JU ar gm;split at h
   ·rename_i q aE;cases h;have ao:=H _ rT _ aE;have ah:a.tmps.getD d undef=.bool q:=by
     have U:=cS d;rcases ao with⟨u,e,hu⟩ | ⟨eN,a0,e⟩;·rw[e]at U;rw[U,hu.bool]
     ·cases a0;rw[e]at U;exact U
    simp[Region.wanted,ar,aG,Ag ah]
   ·rename_i l aE;cases h;have ao:=H _ rT _ aE;obtain⟨u,e,hu⟩:=ao.tW (by simp);obtain⟨vs,_,rfl⟩:=hu.MG;have U:=cS d;rw[e]at U;have x3:yielded ops.toArray a.tmps j=none:=by
     rw[aG];cases o8:a.tmps[d]? with
     |none=>rfl| some v=>simp only[dV,m6,o8,iZ]at U;subst U;rfl
    simp[Region.wanted,ar,x3]
   ·cases h
def ad1{o:Oper}{aj:a4 ak}(H:∀ t∈looks ops o,∀ v,aj.get t=some v->fs D (F t) v):hL D F aj o.op.operands.toList:=λx ab v ah=>by
 cases x with
 |tmp t=>exact H t (JV (by simpa using ab)) v ah| const c=>exact(show oK D F .nil from λt v h=>by cases h).op [.const c] (.const c) (by simp) v ah| global g=>exact(show oK D F .nil from λt v h=>by cases h).op [.global g] (.global g) (by simp) v ah| func f=>exact(show oK D F .nil from λt v h=>by cases h).op [.func f] (.func f) (by simp) v ah
def ad2{m m2:a4 fj}{op:Op}{aj:a4 ak}(h:oa op=false):sm X.P X.E G m op aj=sm X.P X.E G m2 op aj:=by
 cases op with
 |load=>simp[oa]at h| slice t x lo hi mx=>cases mx<;>cases lo<;>cases hi<;>rfl
 |unOp u=>cases u<;>rfl
 |call c=>
  obtain⟨callee,args,ts⟩:=c;cases callee<;>rfl
 |_=>rfl
def By(X:cx)(G:GT)(pr:j5)(D0:bu)(n0:Nat)(ops:List Oper)(es:List Nat)(aj:a4 ak)(vs:List (Nat×ak))(S:List a8)(A:List oH)(L:Nat->Prop)(a:Act)(w:World):Prop:=
 ∃ D F C I M j pJ,Rel X a w F C I M/\(∀ q e,es[q]?=some e->(L e ↔ q<j))/\j<=es.length/\S[j]?=some pJ/\cE (df X G pr) D pJ I M/\(∀ i v t,L i->(i,v)∈vs->hC ops i=some t->fs D (F t) v) /\ (∀ t v,(∀ i,L i->hC ops i≠some t)->aj.get t=some v->fs D (F t) v)/\(∀ i c l T,oH.made i c l T∈A->¬ L i->D c=none)/\D0.ext D n0
def By.aj(cH:s8 ops){L:Nat->Prop}{q:Nat}{o:Oper}(aE:ops[q]?=some o)(pf:¬ L q){vs:List (Nat×ak)}(Bz:(vs.map (·.1)).Nodup){v:ak}(ah:(q,v)∈vs){aj:a4 ak}(hle:D.le bf)(aO:sy o.dst v bf F dI)(ea:∀ i v t,L i->(i,v)∈vs->hC ops i=some t->fs D (F t) v)(rs:∀ t v,(∀ i,L i->hC ops i≠some t)->aj.get t=some v->fs D (F t) v) :
  (∀ i v t,(L i\/i=q)->(i,v)∈vs->hC ops i=some t->fs bf (dI t) v)/\(∀ t v,(∀ i,(L i\/i=q)->hC ops i≠some t)->aj.get t=some v->fs bf (dI t) v):=by
 have Um:hC ops q=o.dst:=by simp[hC,aE]
 constructor
 ·rintro i u t (hi | rfl) hm ai
  ·have bk:o.dst≠some t:=λe=>by obtain⟨fy,g5,oc⟩:=CF ai;exact cH.JT i q fy o t (λa0=>pf (a0 ▸ hi)) g5 aE oc e
   exact aO.2 bf t u bk ((ea i u t hi hm ai).mono hle)
  ·rw[Ul Bz hm ah];rw[Um]at ai;exact aO.1 t ai
 ·intro t u eO ar;have bk:o.dst≠some t:=λe=>eO q (.inr rfl) (by rw[Um,e]);exact aO.2 bf t u bk ((rs t u (λi hi=>eO i (.inl hi)) ar).mono hle)
end
section
variable{X:cx}{G:GT}{pr:j5}{D0:bu}{n0:Nat}{a:Act}{w:World}
def Ni{fZ:List Nat}:∀ {es:List Nat},HP fZ es=true->∀ (p q:Nat) (x y:Nat),p<q->es[p]?=some x->es[q]?=some y->(fZ.getD y 0).testBit x=true
 |[],_,p,q,x,y,_,ab,_=>by simp at ab
 |e::es,h,p,q,x,y,p4,ab,aG=>by
  simp only[HP,bL]at h;cases q with
  |zero=>omega
  |succ q=>
   have v3:es[q]?=some y:=by simpa using aG
   cases p with
   |zero=>simp at ab;subst ab;exact gq.1 h.1 y (vQ v3)| succ p=>exact Ni h.2 p q x y (by omega) (by simpa using ab) v3
def ad3{e:Nat}:e∈vt E ops ↔ e<ops.length/\ze E ops e=2:=by
 unfold vt;rw[vT,kk];constructor
 ·rintro⟨U,aa⟩;exact⟨U,cC aa⟩
 ·rintro⟨U,aa⟩;exact⟨U,by rw[aa];rfl⟩
def Un{i:Nat}{o:Oper}(h:ops[i]?=some o):ze E ops i=jS E o.op:=by unfold ze;rw[xc,h];rfl
def fs.same{x:cW}{u v:ak}(h:fs D x u)(ao:Bk u v=true):fs D x v:=by
 rcases h with⟨y,rfl,h⟩ | ⟨q,rfl,rfl⟩
 ·exact .val (Uk ao h)
 ·have:v=.b q:=by
   cases v<;>simp only[Bk,iP]at ao
   rw[eq_of_beq ao]
  exact .inr ⟨q,this,rfl⟩
def ad4(aH:cB X.P X.E)(iR:∀ d,d<X.n->X.fM.contains d=true)(kV:Ez (df X G pr) call){id:Nat}{ED:Array Oper}(iH:X.P.follows .mixedOrders=true)(av:Aj X.n ED=true)
  {aj fT:a4 ak} {m fD:a8} (h:Mu (df X G pr) call ED.toList aj m=some (fT,fD)) (km:∀ a w,jV X G pr D0 n0 fT fD a w->Q .normal a w) (ao:jV X G pr D0 n0 aj m a w) :
  (Code.region id ED true).wpIn (fW X) 0 X.P Q a w:=by
 refine wpIn_region_any iH ?_;generalize s7:ED.toList=ops at h;have ad5:ED=ops.toArray:=by apply fV;simpa using s7
 subst ad5;have fa:∀ o∈ops,∀ d,o.dst=some d->d<X.n:=by simpa using FW av
 unfold Mu at h;obtain⟨mg,h⟩:=fS h;unfold TA at mg;simp only[bL]at mg;obtain⟨ad6,iV,Uo,xq⟩:=mg;have cH:s8 ops:=PV ad6;have Up:((Ef X.E ops).filter λr=>Nat.beq r.2 2).map (·.1)=vt X.E ops:=by simpa using xq
 clear xq;generalize jL:vt X.E ops=es at *;have Nj:∀ e,e∈es ↔ e<ops.length/\ze X.E ops e=2:=λe=>by rw[<-jL];exact ad3
 generalize alv:Ef X.E ops=row at *;cases nR:mT (df X G pr) call ops row aj m [] []with
 |none=>rw[nR]at h;cases h| some ad7=>
 obtain⟨ad8,ad9,jR,iI⟩:=ad7;rw[nR]at h;have a1:bH (iI.all (Mt (df X G pr) es (jF ops) jR.reverse)) (some (ad8,ad9)) none=some (fT,fD):=h;clear h;obtain⟨Uq,a1⟩:=fS a1;cases a1;obtain⟨vs,S,A,zq,Ur,aea,-⟩:=EC aH iR fa kV row nR;rw[fo]at Ur;subst Ur;rw[List.reverse_reverse]at Uq;have Us:∀ y∈A,Mt (df X G pr) es (jF ops) S y=true:=λy aG=>gq.1 Uq y (aea y aG);have hb:(row.map (·.1)).Nodup:=adZ iV;obtain⟨alw,alx,aly,alz,alA,alB,alC,hT,kU,mF,iy,aeb,alD,aec,aed,alE⟩:=j7.split row (rest:=[]) (by rw[fo];exact zq);have aee:(row.filter λr=>Nat.beq r.2 2).length=es.length:=by rw[<-Up,ei]
 cases aeb;rw[fo]at hT;subst hT;have Bz:(vs.map (·.1)).Nodup:=by rw[kU];exact hb
 have aef:=zq.Ie;have aeg:∀ (pre:List (Nat×Nat)) (rest:List (Nat×Nat)),row=pre++rest->x7 ops (λi=>i∈pre.map (·.1)):=λpre rest k9 j e al he=>by
  obtain⟨⟨x,c⟩,ab,Ng⟩:=du.1 al;have Nh:x=j:=Ng;subst Nh;obtain⟨qk,ql,ax⟩:=ss ab;rcases(If iV qk x c (ql++rest) (by rw[k9,ax];simp)).2.2.2 e he with h | h;·simp at h
  ·show e∈pre.map (·.1);rw[ax,gg];exact en.2 (.inl h)
 let J:=By X G pr D0 n0 ops es aj vs S A
 have key:=adW (X:=X) (ops:=ops) (Q:=Q) cH.lt J ?step ?fin ops.length (Array.replicate ops.length false) a { w with drawn:=w.drawn+1 } (by simp) (by unfold todo;exact jB (xL _ _) (by simp)) ?cl ?start
 case cl=>
  intro j e al;exfalso;by_cases hi:j<ops.length<;>simp[m6,hi]at al
 case start=>
  obtain⟨D,F,C,I,M,⟨β,aZ⟩,cS,kE,ab,qa⟩:=ao;obtain⟨m2,vA,aeh,ar⟩:=zq.head;have b1:∀ i,¬ (Array.replicate ops.length false).getD i false=true:=λi=>by
   by_cases hi:i<ops.length<;>simp[m6,hi]
  refine⟨D,F,C,I,M,0,m2,⟨β,aZ.world rfl⟩,λq e _=>⟨λh=>(b1 e h).elim,λh=>by omega⟩,bj _,by rw[aeh];rfl,kE.grow ar,λi v t hi=>(b1 i hi).elim,λt v _ ar=>cS t v ar,λi c l T l0 _=>?_,ab⟩;have:=(aef.2 i c l T l0).1;cases EE:D c with
  |none=>rfl| some b=>have:=kE.h' _ _ EE;omega
 case fin=>
  rintro a w⟨D,F,C,I,M,j,pJ,aZ,t',al,rD,kE,zr,zs,gp,ab⟩;have dF:j=es.length:=by
   refine Nat.le_antisymm al ?_;by_cases aq:es.length=0;·omega
   ·have aL:es.length-1<es.length:=by omega
    have U:=(t' (es.length-1) es[es.length-1] (gu aL)).1 ((Nj _).1 (cO aL)).1;omega
  have aei:pJ=fD:=by rw[dF,mF,ng (by omega),iy,aee]at rD;simpa using rD.symm
  subst aei;refine km a w ⟨D,F,C,I,M,aZ,λt v ar=>?_,kE,ab,?_⟩
  ·rcases aed t v ar with⟨i,U,aa⟩ | ⟨U,aa⟩
   ·obtain⟨fy,g5,_⟩:=CF aa;exact zr i v t (ij.1 g5).1 U aa
   ·refine zs t v (λi hi=>?_) aa;rcases Nf iV i hi with ag | ag
    ·simp at ag
    ·exact U i ag
  ·obtain⟨bf,dI,C',I',M',_,_,_,_,qa⟩:=ao;exact jB qa aec
 case step=>
  rintro L a w q o⟨D,F,C,I,M,j,pJ,⟨β,aZ⟩,t',al,rD,kE,zr,zs,gp,ab⟩dL Ih aE pf Ii;have fr:q<ops.length:=(ij.1 aE).1;have ph:=fa o (vQ aE);obtain⟨⟨eN,k⟩,Ij,BA⟩:=du.1 ((Nf iV q fr).resolve_left (by simp));have aej:eN=q:=BA;subst aej;obtain⟨pre,post,bQ⟩:=ss Ij;obtain⟨-,-,Ut,aek⟩:=If iV pre eN k post bQ;have ael:∀ e,kS ops eN e->e∈pre.map (·.1):=λe he=>(aek e he).resolve_left (by simp);have Nk:=aeg pre ((eN,k)::post) bQ;have Uu:=zq;rw[bQ]at Uu;obtain⟨tZ,vz,eL,c3,sB,vA,oM,ax,az,bc,ct,ej,gz,iW,nQ,Bx⟩:=j7.split pre Uu;have alF:=ej.Ie;have H:∀ t∈looks ops o,∀ v,eL.get t=some v->fs D (F t) v:=λt au v ah=>by
   rcases nQ t v ah with⟨i,U,aa⟩ | ⟨U,aa⟩
   ·obtain⟨fy,g5,oc⟩:=CF aa;have Uv:i∈pre.map (·.1):=by rw[<-az];exact du.2 ⟨_,U,rfl⟩
    have bk:i≠eN:=λe=>Ut (e ▸ Uv);rcases cH.ord i eN fy o t bk g5 aE oc au with af | af;·exact zr i v t (af.mem dL Ii) (by rw[ax];exact en.2 (.inl U)) aa
    ·exact(Ut (af.mem Nk λe he=>Nk i e Uv he)).elim
   ·refine zs t v (λi hi hE=>?_) aa;obtain⟨fy,g5,oc⟩:=CF hE;have bk:i≠eN:=λe=>pf (e ▸ hi);rcases cH.ord i eN fy o t bk g5 aE oc au with af | af
    ·exact U i (af.mem Nk ael) hE
    ·exact pf (af.mem dL λe he=>dL i e hi he)
  have jx:hL D F eL o.op.operands.toList:=ad1 H;have dX:Bj es (jF ops) eN<=j:=filter_le λp e aO af=>by exact(t' p e aO).1 ((wb af).mem dL Ii)
  have eX:j<=zf es (jF ops) eN:=le_filter al λp e aO yS=>by
   cases af:((jF ops).getD e 0).testBit eN with
   |false=>rfl| true=>have aem:L e:=(t' p e yS).2 aO;exact(pf ((wb af).mem dL λd ai=>dL e d aem ai)).elim
  have Uw:jS X.E o.op≠2->∀ p e,es[p]?=some e->((L e\/e=eN) ↔ p<j):=λae p e aO=>by
   have bk:e≠eN:=λhe=>ae (by
    have:=((Nj e).1 (vQ aO)).2;rw[he,Un aE]at this;exact this)
   exact⟨λbI=>(t' p e aO).1 (bI.resolve_right bk),λbI=>.inl ((t' p e aO).2 bI)⟩
  have Nl:jS X.E o.op=2->es[j]?=some eN/\j+1<=es.length/\∀ p e,es[p]?=some e->((L e\/e=eN) ↔ p<j+1):=λae=>by
   have BA:eN∈es:=(Nj eN).2 ⟨fr,by rw[Un aE];exact ae⟩;obtain⟨xr,hr⟩:=He BA;have alG:=(ij.1 hr).1;have U:¬ xr<j:=λbI=>pf ((t' xr eN hr).2 bI);have aa:¬ j<xr:=λbI=>by
    have dF:j<es.length:=by omega
    have Nm:=Ni Uo j xr es[j] eN bI (gu dF) hr;have:=(t' j es[j] (gu dF)).1 ((wb Nm).mem dL Ii);omega
   have ag:xr=j:=by omega
   subst ag;refine⟨hr,by omega,λp e aO=>⟨λbI=>?_,λbI=>?_⟩⟩
   ·rcases bI with bI | rfl
    ·have:=(t' p e aO).1 bI;omega
    ·refine z5 λav=>?_;have Nm:=Ni Uo xr p e e (by omega) hr aO;exact pf ((wb Nm).mem dL Ii)
   ·by_cases rQ:p<xr
    ·exact .inl ((t' p e aO).2 rQ)
    ·have:p=xr:=by omega
     subst this;rw[hr]at aO;exact .inr (mV aO).symm
  have plain:∀ {v:ak} {dI:Fr} {C':c7} {bF:Act} {w':World},(eN,v)∈vs->jS X.E o.op≠2->(∀ l T c,oH.made eN c l T ∉ A\/True)->Rel X bF w' dI C' I M->sy o.dst v D F dI->J (λj=>L j\/j=eN) bF w':=fun {v dI C' bF w'} ah ae _ tb aO=>by obtain⟨f1,f2⟩:=By.aj cH aE pf Bz ah (bu.le_refl D) aO zr zs;exact⟨D,dI,C',I,M,j,pJ,tb,Uw ae,al,rD,kE,f1,f2,λi c l T hm eO=>gp i c l T hm λhi=>eO (.inl hi),ab⟩
  have EF:∀ {v:ak} {rest:List (Nat×ak)},vz=(eN,v)::rest->(eN,v)∈vs:=fun {v rest} he=>by rw[ax,he];exact en.2 (.inr (by simp))
  have aen:n0<=c3.n:=by obtain⟨bf,dI,C',I',M',_,_,_,_,qa⟩:=ao;exact jB qa iW
  have Ux:∀ {k:Nat},k=2->row=pre++(eN,k)::post->jS X.E o.op=2->sB.length=j:=fun {k} wJ aeo ae=>by
   obtain⟨Nn,dF,_⟩:=Nl ae;have aep:es=(pre.filter λr=>Nat.beq r.2 2).map (·.1)++eN::((post.filter λr=>Nat.beq r.2 2).map (·.1)):=by rw[<-Up,aeo,Bq,gg,vR];subst wJ;simp
   have cf:es.Nodup:=by rw[<-jL];exact List.nodup_range.sublist List.filter_sublist
   have U:es[sB.length]?=some eN:=by rw[aep,ng (by rw[ei,ct];exact b6 _),ei,ct,zh];rfl
   have wm:=(ij.1 U).1;exact(List.getElem?_inj wm cf).1 (by rw[U,Nn])
  cases ej with
  | @q i o' rest k8 nS v cv p0 No Np ju mf ap ae zt ah aO t=>
   have zu:o'=o:=mV (ap.symm.trans aE);subst zu;have hw:=Ig zt aZ.aj H;refine⟨λ_=>?_,λaw=>by rw[hw]at aw;cases aw⟩;obtain⟨u,hu,aeq⟩:∃ u,sm X.P X.E G pJ.t o'.op eL=some u/\∀ x,fs D x u->fs D x v:=by
    cases ay:oa o'.op with
    |false=>exact⟨v,by rw[ad2 ay (m2:=c3.t)];exact ah,λ_ h=>h⟩
    |true=>
     have gU:oH.load eN o' eL v∈A:=gz _ (by rw[ay];simp);have U:=Us _ gU;have aa:=Uj (show Bl S (Bj es (jF ops) eN) (zf es (jF ops) eN) (Mq (df X G pr) o' eL v)=true from U) dX eX rD;unfold Mq at aa;split at aa;·rename_i u hu;exact⟨u,hu,λx ab=>ab.same aa⟩
     ·cases aa
   refine qQ (λbF w'=>?_) (Af aH ph ⟨β,aZ⟩ (Uf (K:=λdI C' I' M'=>I'=I/\M'=M/\sy o'.dst v D F dI) aH ph ae hu jx kE λx ab=>⟨rfl,rfl,.put F (aeq x ab)⟩));rintro⟨dI,C',I',M',fH,rfl,rfl,Nc⟩;exact plain (EF rfl) (by rw[ae];decide) (λ_ _ _=>.inr trivial) fH Nc
  | @a i o' d rest k8 nS m' l T c mk cv p0 No Np ju mf ap ae zt ai ah aer aO t=>
   have zu:o'=o:=mV (ap.symm.trans aE);subst zu;have hw:=Ig zt aZ.aj H;refine⟨λ_=>?_,λaw=>by rw[hw]at aw;cases aw⟩;have gU:oH.made eN c3.n l T∈A:=gz _ (by simp);have U:=Us _ gU;have aa:=Uj (show Bl S (Bj es (jF ops) eN) (zf es (jF ops) eN) (Ms c3.n l T)=true from U) dX eX rD;unfold Ms at aa;rw[bL]at aa;obtain⟨sC,aa⟩:=aa;have aes:c3.n<pJ.n:=bB sC;split at aa
   ·rename_i cs lk eT n8;simp only[bL]at aa;obtain⟨br,xj,aa⟩:=aa;have Cn:=cC br;subst Cn;have T7:=cC xj;subst T7;split at aa
    ·rename_i cU o7;obtain⟨w5,dw,ef,hV⟩:=a4.Bn cs l.length 0 _ _ o7;have tr:w5=cU:=mV hV;subst tr;have EE:D c3.n=none:=gp eN c3.n l lk gU pf;refine qQ (λbF w'=>?_) (Af aH ph ⟨β,aZ⟩ (TS (K:=λdI C' I' M'=>∃ b us u,I'=I/\M'=⟨b,.cells us.toArray lk (0,0)⟩::M/\I b=none/\(∀ x∈M,x.num≠b)/\bq D l us/\(∀ i,X.E lk=some i->us.length=c*i.size)/\c<=maxLen /\ (∀ (bf:bu) id,bf id=some ⟨b,0,c⟩->aM bf (mk id) u)/\xh o'.dst u F dI) aH iR ph ah (by rw[ai];rfl) jx λb us u dI C' aR aV bl fP om G4 Nq=>⟨b,us,u,rfl,rfl,aR,aV,bl,fP,om,G4,Nq⟩));rintro⟨dI,C',I',M',fH,b,us,u,rfl,rfl,aR,aV,bl,fP,om,G4,Nq⟩;have hle:D.le (D.set c3.n ⟨b,0,c⟩):=bu.xg _ EE;have Ik:sy o'.dst (mk c3.n) (D.set c3.n ⟨b,0,c⟩) F dI:=Nq.v (G4 _ _ (bu.pG _ _ _));obtain⟨f1,f2⟩:=By.aj cH aE pf Bz (EF rfl) hle Ik zr zs;have nE:=Bw aa bl;have lU:∀ id,id≠c3.n->(D.set c3.n ⟨b,0,c⟩) id=D id:=λid j6=>by unfold bu.set;rw[dc j6]
     have Ey:∀ id e iq,pJ.t.get id=some e->D id=some iq->iq.b≠b:=λid e iq hi ha tY=>by obtain⟨x,zl,xt⟩:=kE.aY hi ha;exact aV x zl (xt.trans tY)
     refine⟨D.set c3.n ⟨b,0,c⟩,dI,C',I',_,j,pJ,fH,Uw (by rw[ae];decide),al,rD,?_,f1,f2,?_,λi hi=>?_⟩
     ·refine⟨λid e iq hi ha=>?_,λid hh e a0 cg b2 hi cT U aa tY=>?_,λid iq ha=>?_,kE.oI⟩
      ·by_cases j6:id=c3.n
       ·subst j6;rw[bu.pG]at ha;cases ha;rw[n8]at hi;cases hi;refine .cells us.toArray rfl (by simp) (by simp[bl.len]) (λi v hi ah=>?_) (λi hi=>by simpa using fP i hi) om;have kO:w5[i]?=some v:=by have:=ef i hi;rw[dK,ah]at this;exact this.symm
        obtain⟨x,zl,xt⟩:=nE.get kO;exact⟨x,by simpa using zl,xt.mono hle⟩
       ·rw[lU id j6]at ha;exact(kE.hy id e iq hi ha).mono hle λx ab _=>l' _ ab
      ·by_cases j6:id=c3.n
       ·by_cases EG:hh=c3.n
        ·rw[j6,EG]
        ·rw[lU hh EG]at aa;rw[j6,bu.pG]at U;cases U;exact(Ey hh a0 b2 cT aa tY.symm).elim
       ·rw[lU id j6]at U;by_cases EG:hh=c3.n
        ·rw[EG,bu.pG]at aa;cases aa;exact(Ey id e cg hi U tY).elim
        ·rw[lU hh EG]at aa;exact kE.inj id hh e a0 cg b2 hi cT U aa tY
      ·by_cases j6:id=c3.n
       ·rw[j6];exact aes
       ·rw[lU id j6]at ha;exact kE.h' _ _ ha
     ·intro i c' cU yD l0 eO;have aet:c'≠c3.n:=λe=>by
       rcases Bx i c' cU yD l0 with h | h
       ·rcases dE.1 h with h | h
        ·cases h;exact eO (.inr rfl)
        ·have:=(t.Ie.2 i c' cU yD h).1;have:=aer.1;omega
       ·omega
      rw[lU c' aet];exact gp i c' cU yD l0 λhi=>eO (.inl hi)
     ·rw[lU i (by omega)];exact ab i hi
    ·cases aa
   ·cases aa
  | @e i o' rest k8 nS m' v cv p0 No Np ju mf ap ae zt EA aO t=>
   have zu:o'=o:=mV (ap.symm.trans aE);subst zu;have hw:=Ig zt aZ.aj H;refine⟨λ_=>?_,λaw=>by rw[hw]at aw;cases aw⟩;obtain⟨Nn,dF,Nr⟩:=Nl ae;have EH:=Ux rfl bQ ae;have Ns:pJ=c3:=by rw[bc,ng (by omega),EH,zh]at rD;simpa using rD.symm
   subst Ns;obtain⟨m2,aeu,Nt,Nu⟩:=t.head;refine qQ (λbF w'=>?_) (Af aH ph ⟨β,aZ⟩ (EA.2 D F C I M (λdI C' I' M'=>∃ bf,D.ext bf pJ.n/\sy o'.dst v bf F dI/\cE (df X G pr) bf m' I' M') jx kE λbf dI C' I' M' aR aV bl=>⟨bf,aR,aV,bl⟩));rintro⟨dI,C',I',M',fH,bf,aR,aV,bl⟩;have hle:=kE.le aR;obtain⟨f1,f2⟩:=By.aj cH aE pf Bz (EF rfl) hle aV zr zs;refine⟨bf,dI,C',I',M',j+1,m2,fH,Nr,dF,?_,bl.grow Nu,f1,f2,λi c l T l0 eO=>?_,bu.Uh ab aR aen⟩;·rw[bc,ng (by omega),EH,show j+1-j=0+1 by omega,FE,Nt];rfl
   ·rcases Bx i c l T l0 with h | h
    ·have:=(t.Ie.2 i c l T h).1;cases EE:bf c with
     |none=>rfl| some b=>have:=bl.h' _ _ EE;omega
    ·rw[aR c h];exact gp i c l T l0 λhi=>eO (.inl hi)
  | @skip i cd o' rest k8 nS cv p0 No Np ju mf ap ae zt aO t=>
   have zu:o'=o:=mV (ap.symm.trans aE);subst zu;have hw:=Ig zt aZ.aj H;refine⟨λaw=>(by rw[hw]at aw;cases aw),λ_=>?_⟩;have tb:Rel X (a.put o'.dst undef) w (put o'.dst (.val undef) F) C I M:=⟨β,aZ.put (x:=.val undef) ph rfl⟩;have Ik:sy o'.dst (.t []) D F (put o'.dst (.val undef) F):=.put F (.val .undef);by_cases wJ:k=2
   ·subst wJ;obtain⟨Nn,dF,Nr⟩:=Nl ae;have EH:=Ux rfl bQ ae;have Ns:pJ=c3:=by rw[bc,ng (by omega),EH,zh]at rD;simpa using rD.symm
    subst Ns;obtain⟨m2,aeu,Nt,Nu⟩:=t.head;obtain⟨f1,f2⟩:=By.aj cH aE pf Bz (EF rfl) (bu.le_refl D) Ik zr zs;refine⟨D,_,C,I,M,j+1,m2,tb,Nr,dF,?_,kE.grow Nu,f1,f2,λi c l T l0 eO=>gp i c l T l0 λhi=>eO (.inl hi),ab⟩;rw[bc,ng (by omega),EH,show j+1-j=0+1 by omega];show(pJ::ju)[0+1]?=some m2;rw[FE,Nt];rfl
   ·exact plain (EF rfl) (by rw[ae];exact wJ) (λ_ _ _=>.inr trivial) tb Ik
 simpa using key
end
def zv{n:Nat}:∀ {c:Code},g1 n c=true->codeOk n c=true
 | .seq x y,h=>by simp only[g1,codeOk,bL]at h |-;exact⟨zv h.1,zv h.2⟩
 | .block _ c,h=>by simp only[g1,codeOk]at h |-;exact zv h
 | .cond _ x y,h=>by simp only[g1,codeOk,bL]at h |-;exact⟨zv h.1,zv h.2⟩
 | .loop c,h=>by simp only[g1,codeOk]at h |-;exact zv h
 | .region _ ops _,h=>h| .scope c,h=>rfl| .rangeFunc ..,h=>rfl| .skip,h | .exit _,h | .label _,h | .goto _,h | .ret,h | .refuse _,h=>rfl
def Nv{n:Nat}:∀ {c:Code} {l:Nat} {r:Code},g1 n c=true->findLabel c l=some r->g1 n r=true
 | .seq x y,l,r,h,ay=>by
  simp only[g1,bL]at h;simp only[findLabel]at ay;split at ay;·rename_i rest an;cases ay;simp only[g1,bL];exact⟨Nv h.1 an,h.2⟩
  ·exact Nv h.2 ay
 | .label cU,l,r,h,ay=>by
  simp only[findLabel]at ay;split at ay;·cases ay;rfl
  ·cases ay
 | .skip,_,_,_,ay | .exit _,_,_,_,ay | .goto _,_,_,_,ay | .ret,_,_,_,ay | .refuse _,_,_,_,ay | .block _ _,_,_,_,ay | .cond _ _ _,_,_,_,ay | .loop _,_,_,_,ay | .scope _,_,_,_,ay | .region _ _ _,_,_,_,ay | .rangeFunc _ _ _ _,_,_,_,ay=>by simp[findLabel]at ay
def ua(P:Program):Prop:=∀ (g:Nat) (fn:Func) (c:Code),P.funcs[g]?=some fn->fn.body=some c->g1 fn.ntmps c=true/\(fn.name == "runtime.NumGoroutine")=false
def aev(P:Program):Bool:=P.funcs.toList.all λfn=>match fn.body with
 |some c=>g1 fn.ntmps c && !(fn.name == "runtime.NumGoroutine")
 |none=>true
def aew(h:aev P=true):ua P:=λg fn c aw af=>by have U:=gq.1 h fn (by rw[<-Array.mem_def];exact Array.mem_of_getElem? aw);simp only[af,bL,n4]at U;exact U
def vB(Y:fC):Prop:=∀ g vs m v m',Y.pr g vs m=some (v,m')->∀ (D:bu) (I:aN) (M:List aC) (us:List Value),bq D vs us->cE Y D m I M->Spec Y.P g us I M λr I' M'=>∃ bf,D.ext bf m.n/\aM bf v r/\cE Y bf m' I' M'
def xu:q2->Exit
 | .normal=>.normal| .exit id=>.exit id| .goto l=>.goto l| .ret=>.ret
def ia(Y:fC)(n B:Nat)(aq:World)(dd:aN)(bP:List Nat)(ro:Option Nat):cx:=⟨Y.P,Y.E,List.range n,n,B,aq,dd,bP,ro⟩
def ia.fM{Y:fC}{n B:Nat}{aq:World}{dd:aN}{bP:List Nat}{ro:Option Nat}:∀ d,d<(ia Y n B aq dd bP ro).n->(ia Y n B aq dd bP ro).fM.contains d=true:=λd ai=>by have gi:d<n:=ai;show(List.range n).contains d=true;simpa using gi
def zw(Y:fC)(f:Nat):Prop:=∀ hx n c aj m ex cv m',jv Y f hx n c aj m=some (ex,cv,m')->g1 n c=true->∀ B aq dd bP ro D0 n0 a w,(hx=true->ro=none)->jV (ia Y n B aq dd bP ro) Y.G Y.pr D0 n0 aj m a w -> c.wpIn (fW (ia Y n B aq dd bP ro)) 0 Y.P (λe a w=>e=xu ex/\jV (ia Y n B aq dd bP ro) Y.G Y.pr D0 n0 cv m' a w) a w
def Nw{α:Type}:∀ (n k:Nat),(a4.bare n:a4 α).get k=none
 |0,k=>rfl
 |n+1,k=>by
  rw[a4.bare,a4.Ei];cases Nat.beq k 0 with
  |true=>rfl
  |false=>
   cases Nat.beq (k%2) 1 with
   |true=>exact Nw n _| false=>exact Nw n _
section
variable{X:cx}{G:GT}{pr:j5}{D:bu}{m:a8}{F:Fr}{aj:a4 ak}{C:c7}{I:aN}{M:List aC}
def Nx(cS:oK D F aj)(hm:cE (df X G pr) D m I M):∀ {aU:List ResultVar} {vs:List ak} {K:List Value->Prop},w8 (df X G pr) aj m.t aU=some vs->(∀ us,bq D vs us->K us)->m9 X F C I M aU K
 |[],vs,K,h,ae=>by simp only[w8]at h;cases h;exact ae [] .nil
 | .tmp t::l,vs,K,h,ae=>by
  simp only[w8]at h;split at h;·rename_i v p0 U aa;cases h;obtain⟨u,ax,aR⟩:=(show fs D (cR F (.tmp t)) v from cS t v U).dh;unfold m9;rw[ax];exact Nx cS hm aa λus fm=>ae _ (.cons aR fm)
  ·cases h
 | .cell t ty::l,vs,K,h,ae=>by
  simp only[w8]at h;split at h
  ·rename_i x i p0 U aa ag;split at h
   ·rename_i v ah;cases h;have kD:∀ q,x≠.b q:=λq e=>by subst e;cases ah
    obtain⟨u,ax,aR⟩:=fs.tW (cS t x U:fs D (cR F (.tmp t)) x) kD;obtain⟨ad,cU,BB,rfl,bh,ay,aO⟩:=xf hm aR ah;have h3:X.E ty=some i:=aa;have dy:cR F (.tmp t)=.val (.pointer (some ad)):=ax;unfold m9;rw[dy,h3];exact⟨BB,bh,Nx cS hm ag λus fm=>ae _ (.cons (H3 aO ay) fm)⟩
   ·cases h
  ·cases h
end
def Uy(aH:cB Y.P Y.E)(cS:ua Y.P)(k9:vB Y){f:Nat}(aA:zw Y f){args:List ak}{m:a8}{v:ak}{fn:Func}{c:Code}(aw:Y.P.funcs[g]?=some fn)(af:fn.body=some c)(hle:args.length<=fn.ntmps){aj cv:a4 ak}(uH:∀ t w,aj.get t=some w->args[t]?=some w){ex:q2}{c3:a8}(hex:ex=.normal\/ex=.ret)(h:jv Y f true fn.ntmps c aj m=some (ex,cv,c3)){vs:List ak}(an:w8 Y cv c3.t fn.results.toList=some vs)
  (ah:v=TB vs) (hu:bq D args us) (hm:cE Y D m I M):uD Y.P g us I M λr I' M'=>∃ bf,D.ext bf m.n/\aM bf v r/\cE Y bf c3 I' M':=by
 obtain⟨bb,Cq⟩:=cS g fn c aw af;refine JM (List.range fn.ntmps) aH aw af Cq ?_ λB aq a w aZ=>?_
 ·rw[bL];exact⟨zv bb,yN (by rw[hu.len];exact hle)⟩
 ·have aex:oK D (uK us) aj:=λt w hw=>by obtain⟨x,U,aa⟩:=hu.get (uH t w hw);refine .inl ⟨x,?_,aa⟩;simp only[uK,U]
  have dB:jV (ia Y fn.ntmps B aq I (M.map (·.num)) none) Y.G Y.pr D m.n aj m a w:=⟨D,_,_,I,M,aZ,aex,hm,bu.mX,b6 _⟩;refine wpIn_mono (aA _ _ _ _ _ _ _ _ h bb B aq I (M.map (·.num)) none D m.n a w (λ_=>rfl) dB) ?_;rintro e bF w'⟨rfl,bf,dI,C',I',M',tb,Pk,p5,ab,av⟩;have Dw:∀ zo,zo=.normal\/zo=.ret->s3 (ia Y fn.ntmps B aq I (M.map (·.num)) none) fn.results.toList (λr I' M'=>∃ bf,D.ext bf m.n/\aM bf v r/\cE Y bf c3 I' M') zo dI C' I' M':=λzo he=>by
   have aey:=Nx (X:=ia Y fn.ntmps B aq I (M.map (·.num)) none) (G:=Y.G) (pr:=Y.pr) (C:=C') Pk p5 an (K:=λvs=>match vs with
    |[k7]=>s0 (M.map (·.num)) I' M' ((λr I' M'=>∃ bf,D.ext bf m.n/\aM bf v r/\cE Y bf c3 I' M') k7)
    |vs=>s0 (M.map (·.num)) I' M' ((λr I' M'=>∃ bf,D.ext bf m.n/\aM bf v r/\cE Y bf c3 I' M') (.tuple vs.toArray))) λBB fm=>by
     clear an
     match vs,BB,fm,ah with
     |[],BB,fm,ah=>rw[fm.lL];refine⟨I',M',.refl,bf,ab,?_,p5⟩;rw[ah];exact .H2 .nil| [v1],BB,fm,ah=>obtain⟨x,xs,U,aa,rfl⟩:=fm.iU;rw[aa.lL];refine⟨I',M',.refl,bf,ab,?_,p5⟩;rw[ah];exact U
     |v1::v2::vs,BB,fm,ah=>obtain⟨x,xs,U,aa,rfl⟩:=fm.iU;obtain⟨y,me,ag,aK,rfl⟩:=aa.iU;refine⟨I',M',.refl,bf,ab,?_,p5⟩;rw[ah];exact .H2 fm
   rcases he with rfl | rfl<;>exact aey
  rcases hex with rfl | rfl;·exact⟨dI,C',I',M',tb,Dw _ (.inl rfl)⟩
  ·exact⟨dI,C',I',M',tb,Dw _ (.inr rfl)⟩
end Go.V
