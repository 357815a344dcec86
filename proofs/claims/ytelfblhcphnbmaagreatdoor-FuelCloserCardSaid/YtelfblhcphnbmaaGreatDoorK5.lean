/- Part 5 of what the proofs of this seat share: the executor, data in memory, walks.
-/
import Derived.Test.YtelfblhcphnbmaaGreatDoorK4
import Derived.Test.YtelfblhcphnbmaaGreatDoorK3
import Derived.Lib.SliceRun
import Derived.Test.YtelfblhcphnbmaaGreatDoorK2
set_option linter.all false
namespace Go.V
open Go
def iO:=@List.mem_cons_of_mem
def nL:=@List.append_of_mem
def E4:=@List.filter_append
def x4:=@Nat.lt_or_ge
variable{D aW AQ D0:a4}{a fB:Loc}{G:GT}{cD:aO dm}{jR j e off t g clock bK cR c' f n0:Nat}{cv:dm}{cur cs p7 news xs us:List Value}{b:Bool}{x y s os jO lo hi mx:Operand}{E:Env}{P:Program}{u ha:Value}{w:World}{M M':List aC}{es:List (ai×ai)}{args:List ai}{c6:Array Nat}{i':TypeDesc}{arr:Array Value}{base ad:Option Addr}{ut:Option cF}{av iC cA:cF}{R α:Type}{cz eZ:IntKind}{op:Op}{dst:Option Nat}{F cy:Fr}{call:ai->List ai->aU->Option (ai×aU)}{ops:List Oper}{β:Nat->Nat}{X:bO}{Q:Exit->Act->World->Prop}{Y:dJ}{I cg I':aG}{row:List (Nat×Nat)}{ex:m4}{ps:List Nat}{cV body:Code}{pr:g5}
def a4.set(D:a4)(id:Nat)(a:Loc):a4:=λi=>if i=id then some a else D i
def a4.lg(D:a4)(id:Nat)(a:Loc):(D.set id a) id=some a:=by simp[a4.set]
def a4.le_refl(D:a4):D.le D:=λ_ _ h=>h
def a4.le_trans(h:D.le aW)(k:aW.le AQ):D.le AQ:=λi a e=>k _ _ (h _ _ e)
def a4.rz{id:Nat}(a:Loc)(h:D id=none):D.le (D.set id a):=λi b ag=>by
 unfold a4.set;split
 ·rename_i e;subst e;rw[h]at ag;cases ag
 ·exact ag
def a4.ext(D aW:a4)(n:Nat):Prop:=∀ i,i<n->aW i=D i
def a4.jr{n:Nat}:D.ext D n:=λ_ _=>rfl
def a4.vm{n:Nat}:D.ext (D.set n a) n:=λi hi=>by unfold a4.set;rw[cd (by omega)]
section
variable{Y:dJ}{D aW:a4}{m:aU}{I I':aG}{M M':List aC}{R:Type}
def x0.mono(h:x0 G I)(a7:∀ b o,I b=some o->I' b=some o):x0 G I':=λg cs aw=>by obtain⟨arr,T,f,U,aa⟩:=h g cs aw;exact⟨arr,T,f,a7 _ _ U,aa⟩
def bP.le(h:bP Y D m I M)(bX:D.ext aW m.n):D.le aW:=λi a aN=>by rw[bX i (h.fJ _ _ aN)];exact aN
def bP.step(h:bP Y D m I M)(aq:∀ id e,cD.get id=some e->(id=j/\cv=e)\/(id≠j/\m.t.get id=some e))(ap:aW j=some a)(hle:D.le aW)(bX:∀ i,i≠j->aW i=D i)(Ti:∀ id a,aW id=some a->id<jR)(a7:∀ b o,I b=some o->I' b=some o)(h4:∀ id e bl,id≠j->m.t.get id=some e->D id=some bl->∀ x∈M,x.num=bl.b->x∈M')
  (he:gV aW Y.E M' a cv) (zP:∀ id e bl,id≠j->m.t.get id=some e->D id=some bl->bl.b≠a.b):bP Y aW ⟨cD,jR⟩ I' M' where
 fc id e bK aw U:=by
  rcases aq id e aw with⟨ax,aS⟩ | ⟨br,aw⟩;·subst ax;subst aS;rw[ap]at U;cases U;exact he
  ·rw[bX id br]at U;exact(h.fc id e bK aw U).mono hle λx ab aF=>h4 id e bK br aw U x ab aF
 inj id e2 e b2 bK cm aw jw U aa ag:=by
  rcases aq id e aw with⟨ax,aS⟩ | ⟨br,aw⟩
  ·rcases aq e2 b2 jw with⟨b5,ea⟩ | ⟨r0,jw⟩
   ·rw[ax,b5]
   ·rw[bX e2 r0]at aa;subst ax;rw[ap]at U;cases U;exact(zP e2 b2 cm r0 jw aa ag.symm).elim
  ·rw[bX id br]at U;rcases aq e2 b2 jw with⟨b5,ea⟩ | ⟨r0,jw⟩
   ·subst b5;rw[ap]at aa;cases aa;exact(zP id e bK br aw U ag).elim
   ·rw[bX e2 r0]at aa;exact h.inj id e2 e b2 bK cm aw jw U aa ag
 fJ:=Ti
 kt:=h.kt.mono a7
def bP.fresh(h:bP Y D m I M):D m.n=none:=by
 cases bX:D m.n with
 |none=>rfl| some a=>exact absurd (h.fJ _ _ bX) (Nat.lt_irrefl _)
def bP.bF(h:bP Y D m I M){id:Nat}{e:dm}(aw:m.t.get id=some e)(aN:D id=some a):∃ x∈M,x.num=a.b:=by
 cases h.fc id e a aw aN with
 |cells arr aD U=>exact⟨_,U,rfl⟩| map l c U=>exact⟨_,U,rfl⟩| loop L U=>exact⟨_,U,rfl⟩| done L U=>exact⟨_,U,rfl⟩
def bP.new(h:bP Y D m I M){o:Obj}(aq:∀ id e,cD.get id=some e->(id=m.n/\some cv=some e)\/(id≠m.n/\m.t.get id=some e))(az:∀ x∈M,x.num≠a.b)
  (he:gV (D.set m.n a) Y.E (⟨a.b,o⟩::M) a cv):bP Y (D.set m.n a) ⟨cD,m.n+1⟩ I (⟨a.b,o⟩::M):=
 h.step (λid e aw=>(aq id e aw).imp (λh=>⟨h.1,jo h.2⟩) λh=>h) (D.lg _ _) (a4.rz a h.fresh) (λi hi=>by unfold a4.set;rw[cd hi])
  (λid b ag=>by
   unfold a4.set at ag;split at ag;·omega
   ·have:=h.fJ _ _ ag;omega)
  (λ_ _ h=>h) (λ_ _ _ _ _ _ x ab _=>iO _ ab) he
  (λid e bl _ aw th ag=>by
   obtain⟨x,ab,aF⟩:=h.bF aw th;exact az x ab (aF.trans ag))
def gV.new{l:List ai}{vs:List Value}{T c:Nat}{b:Nat}{cs:aO ai}(h3:∀ j x,cs.get j=some x->(0<=j/\l[j-0]?=some x)\/((j<0\/0+l.length<=j)/\(aO.nil:aO ai).get j=some x))(au:a6 D l vs)
  (aj:∀ i,Y.E T=some i->(vs++cur).length=c*i.size) (aB:c<=maxLen):gV D Y.E (⟨b,.cells (vs++cur).toArray T (0,0)⟩::M) ⟨b,0,c⟩ (.cells cs T l.length):=by
 refine .cells (vs++cur).toArray rfl (by simp) (by simp[au.len]) (λi v hi aw=>?_) (λi hi=>by simpa using aj i hi) aB;rcases h3 i v aw with⟨_,U⟩ | ⟨_,U⟩
 ·obtain⟨x,aa,ak⟩:=au.get (i:=i) (by simpa using U);have a0:=(gf.1 aa).1;exact⟨x,by simp only[dd,rR];rw[kA a0];exact aa,ak⟩
 ·cases U
def x5{e:dm}{K:Nat->aU->Option R}{r:R}(h:tb m e K=some r):∃ cD,(∀ id b2,cD.get id=some b2->(id=m.n/\some e=some b2)\/(id≠m.n/\m.t.get id=some b2))/\K m.n ⟨cD,m.n+1⟩=some r:=by unfold tb at h;rw[EP]at h;obtain⟨cD,U,aa⟩:=aO.jn (some e) m.t m.n;rw[U]at h;exact⟨cD,aa,h⟩
def E5{l:List ai}{T:Nat}{K:Nat->aU->Option R}{r:R}(h:nI m l T K=some r):∃ m',K m.n m'=some r/\m'.n=m.n+1 /\
  ∀ {D:a4} {I:aG} {M:List aC} {vs:List Value} (cur:List Value) {b c:Nat},bP Y D m I M->(∀ x∈M,x.num≠b)->a6 D l vs->(∀ i,Y.E T=some i->(vs++cur).length=c*i.size)->c<=maxLen ->
   bP Y (D.set m.n ⟨b,0,c⟩) m' I (⟨b,.cells (vs++cur).toArray T (0,0)⟩::M):=by
 unfold nI at h;obtain⟨cs,U,aa⟩:=aO.p6 l (.nil:aO ai) 0;rw[U]at h;obtain⟨cD,ak,aL⟩:=x5 h;refine⟨_,aL,rfl,fun {D I M vs} cur {b c} hm az au aj aB=>?_⟩;exact hm.new (a:=⟨b,0,c⟩) ak az (.new aa (au.mono (a4.rz _ hm.fresh)) aj aB)
end
def Tj(z:List Value)(n:Nat):rowOf z (z.length+n)=rowOf z z.length++rowOf z n:=by unfold rowOf;rw[List.range_add,kC,sJ];congr 1;apply ua;intro i _;simp[Nat.add_mod_left]
def Tk(z:List Value):rowOf z z.length=z:=by
 unfold rowOf;apply B6
 ·simp
 ·intro i U aa;simp only[sk,List.getElem_range,Nat.mod_eq_of_lt aa];simp[aa]
def E6(z:List Value):∀ n,rowOf z (n*z.length)=(List.replicate n z).flatten
 |0=>by simp[rowOf]
 |n+1=>by rw[Nat.succ_mul,yM,Tj,Tk,E6 z n,List.replicate_succ,CK]
def Lw(place:Nat->Option (Nat×Nat)):∀ (vs:List (Nat×Value)) (cs r:List Value),ma place cs vs=some r->r.length=cs.length
 |[],cs,r,h=>by simp only[ma]at h;cases h;rfl
 |(i,v)::vs,cs,r,h=>by
  simp only[ma]at h;split at h;·cases h
  ·rename_i off size aK;cases ag:(Nat.beq v.cells.size size&&Nat.ble (off+size) cs.length)with
   |false=>rw[ag]at h;cases h| true=>rw[ag]at h;simp only[bn]at h;rw[Lw place vs _ _ h];rw[bs]at ag;have U:=cb ag.1;have aa:=bk ag.2;simp[bt];omega
def rA(dst:Option Nat)(u:Value)(F cy:Fr):Prop:=(∀ d,dst=some d->cy d=.val u)/\∀ (D:a4) t v,dst≠some t->dn D (F t) v->dn D (cy t) v
def rA.put(dst:Option Nat)(u:Value)(F:Fr):rA dst u F (put dst (.val u) F):=by
 constructor
 ·rintro d rfl;simp[Go.V.put,dK]
 ·intro D t v br h;cases dst with
  |none=>exact h| some d=>have:t≠d:=λe=>br (by rw[e]);simp only[Go.V.put,dK,eQ this,bj];exact h
def rA.j0(d:Nat)(u:Value)(F:Fr):rA (some d) u F (dK (j0 F d) d (.val u)):=by
 constructor
 ·rintro _⟨⟩;simp[dK]
 ·intro D t v br h;have:t≠d:=λe=>br (by rw[e]);simp only[dK,eQ this,bj];unfold Go.V.j0;rcases h with⟨Tl,e,h⟩ | ⟨q,e,h⟩
  ·rw[e];exact .inl ⟨Tl,rfl,h⟩
  ·rw[h];exact .inr ⟨q,e,rfl⟩
section
variable{X:bO}{G:GT}{pr:g5}{D:a4}{m:aU}{F:Fr}{ah:aO ai}{C:b6}{I:aG}{M:List aC}{K:dE}{o:Oper}
def Lx(aA:bV X.P X.E)(gi:∀ d,d<X.n->X.eX.contains d=true)(ao:∀ d,o.dst=some d->d<X.n){l:List ai}{T c:Nat}{mk:Nat->ai}(h:td X.E o ah=some (l,T,c,mk))(x6:o.dst.isSome=true)(H:fr D F ah o.op.operands.toList)
  (k:∀ b vs u cy C',I b=none->(∀ x∈M,x.num≠b)->a6 D l vs->(∀ i,X.E T=some i->vs.length=c*i.size)->c<=maxLen->(∀ (aW:a4) id,aW id=some ⟨b,0,c⟩->ay aW (mk id) u)->rA o.dst u F cy ->
   K cy C' I (⟨b,.cells vs.toArray T (0,0)⟩::M)):dW X o F C I M K:=by
 obtain⟨dst,op,ty,pos,after,guard⟩:=o;cases dst with
 |none=>cases x6
 |some d=>
  have kP:X.eX.contains d=true:=gi d (ao d rfl);have Ly:∀ (b c:Nat) (aW:a4) id,aW id=some ⟨b,0,c⟩->ay aW (.p id 0) (.pointer (some ⟨b,0,none⟩)):=λb c aW id g6=>by simp only[ay];exact⟨_,g6,rfl⟩
  unfold td at h;simp only at h H;split at h
  ·rename_i t x;unfold K3 at h;obtain⟨i,hi,h⟩:=bD h;obtain⟨v,af,h⟩:=bD h;obtain⟨ag,h⟩:=dR h;cases h;obtain⟨u,ax,aI⟩:=H.a' (x:=x) (by simp[Op.operands]) af;have aB:=aI.cells;simp only[dW,ax,kP,bn];refine⟨λb U aa=>?_⟩;have:=k b u.cells.toList (.pointer (some ⟨b,0,none⟩)) _ (fs C d none) U aa aB (λeb cr=>?_) (by decide) (Ly b 1) (.j0 d _ F)
   ·simpa using this
   ·rw[hi]at cr;cases cr;rw[aB.len,sp];exact cb ag
  ·rename_i t;unfold K4 at h;obtain⟨i,hi,h⟩:=bD h;obtain⟨z,a2,h⟩:=bD h;cases h;simp only[dW,hi,kP,bn];refine⟨λb U aa=>?_⟩;exact k b i.zero (.pointer (some ⟨b,0,none⟩)) _ (fs C d none) U aa (.sX a2) (λeb cr=>by rw[hi]at cr;cases cr;rw[(aA _ _ hi).len,sp]) (by decide) (Ly b 1) (.j0 d _ F)
  ·rename_i t len parts;unfold K5 at h;split at h
   ·rename_i sa l1 sz e vs aq aK;obtain⟨av,he,h⟩:=bD h;obtain⟨z,a2,h⟩:=bD h;obtain⟨us,ax,aI⟩:=H.parts (l:=parts.toList) (by intro y aE;simpa[Op.operands]using aE) aK;simp only[dW,aq,ax,he];have zv:=(aA _ _ he).len;cases ag:(Nat.ble (len*av.size) 16777216&&Nat.blt 0 (len*av.size))with
    |true=>
     have ft:(Nat.ble (Nat.mul len av.size) 16777216&&Nat.blt 0 (Nat.mul len av.size))=true:=ag;rw[gE,ft]at h;simp only[bn]at h |-;obtain⟨cs,ak,aL⟩:=bD h;have eE:some (cs,e,len,λid=>ai.sl id 0 len len)=some (l,T,c,mk):=aL;cases eE;have E7:a6 D (tc c z) (rowOf av.zero (c*av.size)):=by rw[<-zv,E6];exact(a6.sX a2).w6 c
     obtain⟨aV,be,bT⟩:=AN ak E7 aI;rw[be];refine⟨λb U aa=>?_⟩;have hlen:aV.length=c*av.size:=by rw[Lw _ _ _ _ be];simp[rowOf]
     rw[bs]at ag;have nh:=bk ag.1;have kK:0<c*av.size:=bk ag.2;exact k b aV (.slice (some ⟨b,0,none⟩) c c) _ C U aa bT (λeb cr=>by rw[he]at cr;cases cr;exact hlen)
      (by
       have er:0<av.size:=Nat.pos_of_mul_pos_left kK;have:c<=c*av.size:=Nat.le_mul_of_pos_right _ er;simp only[maxLen];omega)
      (λaW id g6=>by simp only[ay];exact⟨_,g6,rfl⟩) (.put _ _ F)
    |false=>
     have ft:(Nat.ble (Nat.mul len av.size) 16777216&&Nat.blt 0 (Nat.mul len av.size))=false:=ag;rw[gE,ft]at h;simp only[bj]at h |-;obtain⟨aB,h⟩:=dR h;cases h;rw[bs]at aB;have ak:=cb aB.1;subst ak;have aL:vs=[]:=by simpa using aB.2
     subst aL;cases aI;simp only;refine⟨λb U aa=>?_⟩;exact k b [] (.slice (some ⟨b,0,none⟩) 0 0) _ C U aa .nil (λeb cr=>by simp) (by decide) (λaW id g6=>by simp only[ay];exact⟨_,g6,rfl⟩) (.put _ _ F)
   ·cases h
  ·rename_i t bY c';unfold K6 at h;split at h
   ·rename_i sa l1 sz e yW X9 aq U aa;obtain⟨av,he,h⟩:=bD h;obtain⟨n,aF,h⟩:=bD h;obtain⟨q,aR,h⟩:=bD h;obtain⟨z,a2,h⟩:=bD h;obtain⟨ag,h⟩:=dR h;cases h;obtain⟨cH,rfl⟩:=vk aF;obtain⟨cz,rfl⟩:=vk aR;obtain⟨lX,ax,aI⟩:=H.a' (x:=bY) (by simp[Op.operands]) U;obtain⟨jN,aS,aQ⟩:=H.a' (x:=c') (by simp[Op.operands]) aa;rw[aI.int]at ax;rw[aQ.int]at aS;simp only[bs]at ag;simp only[dW,aq,ax,aS,he];refine⟨n,c,rfl,rfl,bk ag.1,bk ag.2.1,bk ag.2.2,⟨λb ak aL=>?_⟩⟩;have zv:=(aA _ _ he).len;have E7:a6 D (tc c z) (rowOf av.zero (c*av.size)):=by rw[<-zv,E6];exact(a6.sX a2).w6 c
    exact k b _ (.slice (some ⟨b,0,none⟩) n c) _ C ak aL E7 (λeb cr=>by rw[he]at cr;cases cr;simp[rowOf]) (bk ag.2.2) (λaW id g6=>by simp only[ay];exact⟨_,g6,rfl⟩) (.put _ _ F)
   ·cases h
  ·cases h
end
def Lz{vs:List Value}{i:Nat}(h:off+vs.length<=cs.length):(bt cs off vs)[i]?=if off<=i/\i<off+vs.length then vs[i-off]? else cs[i]?:=by
 unfold bt;by_cases U:i<off
 ·rw[cd (by omega),kA (by simp;omega),kA (by simp;omega),hW,ck U]
 ·by_cases aa:i<off+vs.length
  ·rw[ck ⟨by omega,aa⟩,kA (by simp;omega),j8 (by simp;omega)];simp;congr 1;omega
  ·rw[cd (by omega),j8 (by simp;omega),l8];congr 1;simp;omega
def E8{vs:List Value}(h:off+vs.length<=cs.length):(bt cs off vs).length=cs.length:=by simp[bt];omega
section
variable{Y:dJ}{D:a4}{m:aU}{I:aG}{M:List aC}{R:Type}
def E9{x:ai}{l:List ai}{K:aU->Option R}{r:R}(h:p4 m x l K=some r):∃ m',K m'=some r/\m'.n=m.n/\(∀ id,m'.t.get id≠none->m.t.get id≠none\/True) /\
  ∀ {D:a4} {I:aG} {M:List aC} {u:Value} {vs:List Value},bP Y D m I M->ay D x u->a6 D l vs ->
   ∃ (g off:Nat) (pre post:List aC) (arr:Array Value) (T:Nat),u=.pointer (some ⟨g,off,none⟩)/\M=pre++⟨g,.cells arr T (0,0)⟩::post/\off+vs.length<=arr.size/\eP vs=true /\ (∃ id e a,m.t.get id=some e/\D id=some a/\a.b=g) /\
    bP Y D m' I (pre++⟨g,.cells (bt arr.toList off vs).toArray T (0,0)⟩::post):=by
 unfold p4 at h;split at h
 ·rename_i id off;split at h
  ·rename_i cs T c3 aw;cases ag:(Nat.ble (Nat.add off l.length) c3&&l.all ai.one)with
   |false=>rw[ag]at h;cases h
   |true=>
    rw[ag]at h;simp only[bn]at h;rw[bs]at ag;have rB:off+l.length<=c3:=bk ag.1;obtain⟨cs',U,aa⟩:=aO.p6 l cs off;rw[U]at h;obtain⟨cD,ak,aL⟩:=aO.jn (some (dm.cells cs' T c3)) m.t id;rw[ak]at h;refine⟨_,h,rfl,λ_ _=>.inr trivial,fun {D I M u vs} hm ab au=>?_⟩;obtain⟨a,aN,rfl⟩:=ab.ptr;have he:=hm.fc _ _ _ aw aN;obtain⟨arr,ar,aZ,bW,aB,aj,gb⟩:=he;have hlen:=au.len;obtain⟨pre,post,cX⟩:=nL aZ;have fy:off+vs.length<=arr.size:=by omega
    refine⟨a.b,off,pre,post,arr,T,by rw[ar,dd],cX,fy,au.one ag.2,⟨id,_,a,aw,aN,rfl⟩,?_⟩;have ej:∀ x∈M,x.num≠a.b->x∈pre++⟨a.b,.cells (bt arr.toList off vs).toArray T (0,0)⟩::post:=λx ab aF=>by
     rw[cX]at ab;rcases c9.1 ab with ab | ab;·exact c9.2 (.inl ab)
     ·rcases cU.1 ab with rfl | ab
      ·exact(aF rfl).elim
      ·exact c9.2 (.inr (iO _ ab))
    refine hm.step (λi e hi=>(aL i e hi).imp (λq=>⟨q.1,jo q.2⟩) λq=>q) aN (a4.le_refl D) (λ_ _=>rfl) hm.fJ (λ_ _ h=>h) (λi e bl br hi kw x ab aF=>ej x ab ?_) ?_ ?_;·rw[aF];exact λag=>br (hm.inj _ _ _ _ _ _ hi aw kw aN ag)
    ·have x7:(bt arr.toList off vs).length=arr.size:=by rw[E8 (by simpa using fy)];simp
     refine .cells (bt arr.toList off vs).toArray ar (by simp) (by simp[x7];exact bW) (λi v hi x8=>?_) (λi hi=>by simp[x7];exact aj i hi) gb;rw[ar,dd];simp only[rR];rw[Lz (by simpa using fy)];rcases aa i v x8 with⟨aI,aQ⟩ | ⟨aI,aQ⟩;·have a0:=(gf.1 aQ).1;rw[ck ⟨aI,by omega⟩];exact au.get aQ
     ·rw[cd (by omega)];have:=aB i v hi aQ;rw[ar,dd]at this;simpa using this
    ·intro i e bl br hi kw ag;exact br (hm.inj _ _ _ _ _ _ hi aw kw aN ag)
  ·cases h
 ·cases h
def E':∀ {l:List ai} {bz:List UInt8} {vs:List Value},va l=some bz->a6 D l vs->vs=bz.map (λb=>.int .u8 b.toNat)
 |[],bz,vs,h,au=>by simp only[va]at h;cases h;exact au.iv
 |v::l,bz,vs,h,au=>by
  unfold va at h;split at h;·rename_i e;cases e
  ·rename_i n bY e;cases e;cases ag:Nat.ble n 255 with
   |false=>rw[ag]at h;cases h
   |true=>
    rw[ag]at h;simp only[bn]at h;split at h;·rename_i r al;cases h;obtain⟨x,xs,U,aa,rfl⟩:=au.gv;have aF:=bk ag;rw[E' al aa,U.int];simp only[cC,sI,and_true,Value.int.injEq,true_and];rw[UInt8.toNat_ofNat_of_lt' (show n<256 by omega)];rfl
    ·cases h
  ·cases h
inductive rC:TypeDesc->ai->Prop
 |int{k n}:rC (.int k) (.i k n)| str {l}:rC .string (.s l)
def LA(aA:bV P E){k:Nat}{y:ai}(h:Av (E k) y=true):∃ d,P.underlying k=some d/\rC d y:=by
 unfold Av at h;split at h
 ·rename_i dq cG n aj;have:=IntKind.tN h;subst this;obtain⟨d,hu,ao⟩:=(aA _ _ aj).dr;refine⟨d,hu,?_⟩;have:d=.int dq:=by cases d<;>simp_all[dh]
  subst this;exact .int
 ·rename_i l aj;obtain⟨d,hu,ao⟩:=(aA _ _ aj).dr;refine⟨d,hu,?_⟩;have:d=.string:=by cases d<;>simp_all[dh]
  subst this;exact .str
 ·cases h
def rC.isKey{d:TypeDesc}{y:ai}(h:rC d y)(aE:ay D y u):MapKept.IsKey d u:=by
 cases h with
 |int=>rw[aE.int];rfl| str=>rw[aE.str];trivial
def LB(a b:ByteArray):(a == b)=decide (a=b):=by rw[rT,MapKept.bytes_beq];simp
def vn{d:TypeDesc}{y x:ai}{w:Value}{r:Bool}(h:rC d y)(aE:ay D y u)(ab:ay D x w)(he:u4 y x=some r):Instr.sameNow d u w=some r:=by
 cases h with
 | @int k n=>
  rw[aE.int];unfold u4 at he;split at he;·rename_i e;cases e
  ·rename_i cH a cz b e;cases e;obtain⟨U,aa⟩:=dR he;have:=IntKind.tN U;subst this;cases aa;rw[ab.int];simp only[Instr.sameNow,kE,vi];congr 1
  ·rename_i e;cases e
  ·cases he
 | @str l=>
  rw[aE.str];unfold u4 at he;split at he;·rename_i e;cases e
  ·rename_i e;cases e
  ·rename_i a b e;cases e;cases he;rw[ab.str];simp only[Instr.sameNow];rw[LB,AO,vj]
  ·cases he
def LC{d:TypeDesc}{y:ai}{u:Value}(h:rC d y)(aE:ay D y u):∀ {es:List (ai×ai)} {l:List MapEntry} {r:Option ai} (i:Nat),kv D es l->xR y es=some r ->
  match r with
  |none=>Instr.findNow d u l i=some none| some v=>∃ j w,Instr.findNow d u l i=some (some (j,w))/\ay D v w
 |[],_,r,i,.nil,au=>by simp only[xR]at au;cases au;rfl
 |(x,v)::es,_,r,i,.cons (e:=e) (l:=l) aj af t,au=>by
  simp only[xR]at au;split at au;·rename_i he;cases au;refine⟨i,e.val,?_,af⟩;simp only[Instr.findNow,vn h aE aj he]
  ·rename_i he;have aX:=LC h aE (i+1) t au;simp only[Instr.findNow,vn h aE aj he];exact aX
  ·cases au
def LD{d:TypeDesc}{y v:ai}{u w:Value}(h:rC d y)(aE:ay D y u)(af:ay D v w):∀ {es nM:List (ai×ai)} {l:List MapEntry} (i:Nat),kv D es l->xS y v es=some nM -> (Instr.findNow d u l i=some none/\∀ b,kv D nM (l++[{ key:=u,val:=w,born:=b }])) \/ ∃ j e,Instr.findNow d u l i=some (some (i+j,e.val))/\l[j]?=some e/\Instr.sameNow d u e.key=some true/\kv D nM (l.modify j λe=>{ e with key:=u,val:=w })
 |[],nM,_,i,.nil,au=>by simp only[xS]at au;cases au;exact .inl ⟨rfl,λb=>.cons aE af .nil⟩
 |(x,mR)::es,nM,_,i,.cons (e:=e) (l:=l) aj hz t,au=>by
  simp only[xS]at au;split at au
  ·rename_i he;cases au;refine .inr ⟨0,e,?_,rfl,vn h aE aj he,?_⟩
   ·simp only[Instr.findNow,vn h aE aj he,mW]
   ·simp only[List.modify_zero_cons];exact .cons aE af t
  ·rename_i he;split at au
   ·rename_i r al;cases au;rcases LD h aE af (i+1) t al with⟨U,aa⟩ | ⟨j,b2,U,aa,ak,aL⟩
    ·refine .inl ⟨?_,λb=>.cons aj hz (aa b)⟩;simp only[Instr.findNow,vn h aE aj he];exact U
    ·refine .inr ⟨j+1,b2,?_,by simpa using aa,ak,?_⟩
     ·simp only[Instr.findNow,vn h aE aj he];rw[U];congr 3;omega
     ·simp only[List.modify_succ_cons];exact .cons aj hz aL
   ·cases au
  ·cases au
end
section
variable{P:Program}{w:World}
def Tm{k:Nat}(aq:P.underlying t=some (.map k e)){d:TypeDesc}(aj:P.underlying k=some d)(o1:MapKept.IsKey d u){l:List MapEntry}(aw:w.heap[g]?=some (.map l.toArray clock))
  {q:Option (Nat×Value)} (az:Instr.findNow d u l 0=some q) {inf:TypeInfo} {z:Value} (hi:P.info? e=some inf) (a2:inf.zero=some z) (ok:Bool) :
  (Instr.lookup t (.map (some g)) u ok).run P w=.ok (bif ok then .tuple #[(q.map (·.2)).getD z,.bool q.isSome]else(q.map (·.2)).getD z) w:=by
 have aB:(Instr.checkKey l.toArray.isEmpty 10000 k u).run P w=.ok () w:=w1 aj o1 _ 9999;have pQ:(Instr.findKey k u l).run P w=.ok q w:=w2 aj az;have AR:(zeroValue e).run P w=.ok z w:=by simp[zeroValue,typeInfo,hi,a2]
 unfold Instr.lookup;simp only[bo,run_underlying aq,bd,w0 aw,bR,aB,pQ];cases q with
 |none=>cases ok<;>simp[AR]
 |some p=>cases ok<;>simp
def Tn{k:Nat}(aq:P.underlying t=some (.map k e)){d:TypeDesc}(aj:P.underlying k=some d){v:Value}(o1:MapKept.IsKey d u){l:List MapEntry}(aw:w.heap[g]?=some (.map l.toArray clock))
  (az:Instr.findNow d u l 0=some none):(Instr.mapUpdate t (.map (some g)) u v).run P w=.ok () { w with heap:=w.heap.setIfInBounds g (.map (l++[({ key:=u,val:=v,born:=clock }:MapEntry)]).toArray (clock+1)) }:=by
 have aB:(Instr.checkKey false 10000 k u).run P w=.ok () w:=w1 aj o1 _ 9999;have pQ:(Instr.findKey k u l).run P w=.ok none w:=w2 aj az;unfold Instr.mapUpdate;simp only[bo,run_underlying aq,bd,w0 aw,aB,pQ,CH _ aw];congr 3;simp
def To{k:Nat}(aq:P.underlying t=some (.map k e)){d:TypeDesc}(aj:P.underlying k=some d){v:Value}(o1:MapKept.IsKey d u){l:List MapEntry}(aw:w.heap[g]?=some (.map l.toArray clock))
 {b2:MapEntry} (az:Instr.findNow d u l 0=some (some (j,b2.val))) (ap:l[j]?=some b2) (an:b2.key=u) :
  (Instr.mapUpdate t (.map (some g)) u v).run P w=.ok () { w with heap:=w.heap.setIfInBounds g (.map (l.modify j λe=>{ e with key:=u,val:=v }).toArray clock) }:=by
 have aB:(Instr.checkKey false 10000 k u).run P w=.ok () w:=w1 aj o1 _ 9999;have pQ:(Instr.findKey k u l).run P w=.ok (some (j,b2.val)) w:=w2 aj az;have g3:(Instr.keyThatStays u u).run P w=.ok u w:=MapKept.run_keyThatStays o1;unfold Instr.mapUpdate;simp only[bo,run_underlying aq,bd,w0 aw,aB,pQ];simp only[rR,ap,gX,hs,an,g3,bd,CH _ aw];congr 3;show Obj.map _ _=Obj.map _ _;congr 1;apply dT;simp
end
section
variable{X:bO}{G:GT}{pr:g5}{D:a4}{m m':aU}{F:Fr}{ah:aO ai}{C:b6}{I:aG}{M:List aC}{K:dE}{o:Oper}{v:ai}
def lh(X:bO)(G:GT)(pr:g5)(D:a4)(m:aU)(I:aG)(M:List aC)(v:ai)(m':aU)(dst:Option Nat)(F:Fr)(C:b6)(K:dE):Prop:=
 ∀ aW u M',D.ext aW m.n->ay aW v u->bP (b' X G pr) aW m' I M'->K (put dst (.val u) F) C I M'
def Tp(ar:o.op=.store t x y)(h:bg o.dst (At (X.E t) m (bS ah x) (bS ah y)) (λ_=>none)=some (v,m'))(H:fr D F ah o.op.operands.toList)(hm:bP (b' X G pr) D m I M)
  (k:lh X G pr D m I M v m' o.dst F C K):dW X o F C I M K:=by
 obtain⟨dst,op,ty,pos,after,guard⟩:=o;simp only at ar;subst ar;cases dst with
 |some d=>cases h
 |none=>
  have U:At (X.E t) m (bS ah x) (bS ah y)=some (v,m'):=h;unfold At at U;obtain⟨i,hi,U⟩:=bD U;obtain⟨a,ab,U⟩:=bD U;obtain⟨b,aE,U⟩:=bD U;obtain⟨ag,U⟩:=dR U;obtain⟨m2,aa,-,-,ak⟩:=E9 (Y:=b' X G pr) U;cases aa;simp only at H;have Tq:=H x (by simp[Op.operands]) _ ab;have jk:∀ q,a≠.b q:=λq e=>by subst e;cases U
  obtain⟨u,ax,aI⟩:=Tq.oZ jk;obtain⟨w,aS,aQ⟩:=H.a' (x:=y) (by simp[Op.operands]) aE;obtain⟨g,off,pre,post,arr,T,rfl,aZ,fy,j3,⟨id,e,fB,g6,zI,aw⟩,hp⟩:=ak hm aI aQ.cells;simp only[dW,hi,aS,ax];have bW:Nat.beq w.cells.size i.size=true:=by have:=aQ.cells.len;rw[qI]at this;rw[this];exact ag
  rw[bW];simp only[bn];refine⟨pre,post,arr,T,aZ,rfl,fy,j3,?_⟩;exact k D (.tuple #[]) _ a4.jr (by simp only[ay];exact⟨[],.nil,rfl⟩) hp
def LF(ao:∀ d,o.dst=some d->d<X.n)(bI:∀ c,o.op≠.defer c)
  (h:∀ (β:Nat->Nat) (a:Act) (w:World),bE X β a w F C I M->∃ u w' I' M',(execOp a.eval o).run X.P w=.ok (.value u) w'/\bE X β a w' F C I' M'/\K (put o.dst (.val u) F) C I' M'):a9 X o F C I M K:=by
 refine⟨λa w Q ⟨β,aM⟩=>?_⟩;obtain⟨u,w',I',M',U,aa,ak⟩:=h β a w aM;exact fC bI U ⟨_,_,_,_,⟨β,aa.put (x:=.val u) ao rfl⟩,ak⟩
def Tr(ao:o.dst=none)(bI:∀ c,o.op≠.defer c)
  (h:∀ (β:Nat->Nat) (a:Act) (w:World),bE X β a w F C I M->∃ w' I' M',(execOp a.eval o).run X.P w=.ok .skip w'/\bE X β a w' F C I' M'/\K F C I' M'):a9 X o F C I M K:=by
 refine⟨λa w Q ⟨β,aM⟩=>?_⟩;obtain⟨w',I',M',U,aa,ak⟩:=h β a w aM;refine tK bI U ⟨_,_,_,_,⟨β,?_⟩,ak⟩;rw[ao];exact aa
def LG(aA:bV X.P X.E)(ao:∀ d,o.dst=some d->d<X.n){r:Option Operand}(ar:o.op=.makeMap t r)(h:Au (X.E t) m=some (v,m'))(al:∀ x,r=some x->∃ k n,a' F x=.val (.int k n))(hm:bP (b' X G pr) D m I M)
  (k:lh X G pr D m I M v m' o.dst F C K):a9 X o F C I M K:=by
 unfold Au at h;split at h
 ·rename_i sa l1 sz dq e aq;obtain⟨d,dv,dN⟩:=(aA _ _ aq).dr;have U:d=.map dq e:=by cases d<;>simp_all[dh]
  subst U;obtain⟨cD,aa,ak⟩:=x5 h;cases ak;refine LF ao (by rw[ar];simp) fun β a w aM=>?_;refine⟨.map (some w.heap.size),w.alloc (.map #[] 0),I,⟨w.heap.size,.map #[] 0⟩::M,?_,aM.j1 _,?_⟩
  ·unfold execOp;cases r with
   |none=>simp[ar,Instr.makeMap]| some x=>obtain⟨cH,CC,ab⟩:=al x rfl;have C8:=b1 aM.ah ab;simp[ar,C8,Instr.makeMap,run_underlying dv,asInt,iU]
  ·have az:∀ x∈M,x.num≠w.heap.size:=aM.holds.kG;refine k _ _ _ a4.vm (by simp only[ay];exact⟨_,a4.lg _ _ ⟨w.heap.size,0,0⟩,rfl⟩) (hm.new (a:=⟨w.heap.size,0,0⟩) aa az ?_);exact .map [] 0 (by simp) .nil
 ·cases h
def gV.LH(h:gV D E M a (.map es)):∃ l clock,(⟨a.b,.map l.toArray clock⟩:aC)∈M/\kv D es l:=by
 cases h with
 |map l clock U aa=>exact⟨l,clock,U,aa⟩
def ay.map'{id:Nat}(h:ay D (.m id) u):∃ a,D id=some a/\u=.map (some a.b):=by simpa only[ay]using h
def Ts(aA:bV X.P X.E)(ao:∀ d,o.dst=some d->d<X.n){ok:Bool}(ar:o.op=.lookup t x y ok)(h:Ez X.P X.E t m (bS ah x) (bS ah y) ok=some (v,m'))(H:fr D F ah o.op.operands.toList)
  (hm:bP (b' X G pr) D m I M) (k:lh X G pr D m I M v m' o.dst F C K):a9 X o F C I M K:=by
 unfold Ez at h;split at h
 ·rename_i sa l1 sz dq e id Tt aq U aa;obtain⟨o1,h⟩:=dR h;split at h
  ·rename_i es aw;obtain⟨r,al,h⟩:=bD h;obtain⟨inf,hi,h⟩:=bD h;obtain⟨z,a2,h⟩:=bD h;obtain⟨mf,r7,h⟩:=bD h;cases h;obtain⟨d,dv,dN⟩:=(aA _ _ aq).dr;have e7:d=.map dq e:=by cases d<;>simp_all[dh]
   subst e7;obtain⟨q7,oA,ti⟩:=LA aA o1;rw[ar]at H;obtain⟨lX,ax,aI⟩:=H.a' (x:=x) (by simp[Op.operands]) U;obtain⟨jN,aS,aQ⟩:=H.a' (x:=y) (by simp[Op.operands]) aa;obtain⟨a,aN,rfl⟩:=aI.map';have he:=hm.fc _ _ _ aw aN;obtain⟨l,clock,aZ,Fa⟩:=he.LH;have pz:=LC ti aQ 0 Fa al;have AR:ay D mf z:=.of r7;have fin:∀ {q:Option (Nat×Value)},Instr.findNow q7 jN l 0=some q->(r=none/\q=none\/∃ x9 j w,r=some x9/\q=some (j,w)/\ay D x9 w)->a9 X o F C I M K:=fun {q} az aR=>by
    refine LF ao (by rw[ar];simp) fun β ac w aM=>?_;have dg:=Tm (P:=X.P) (w:=w) dv oA (ti.isKey aQ) (aM.holds.m _ aZ) az hi a2 ok;have ex:=b1 aM.ah ax;have nk:=b1 aM.ah aS;refine⟨bif ok then .tuple #[(q.map (·.2)).getD z,.bool q.isSome]else(q.map (·.2)).getD z,w,I,M,?_,aM,k D _ M a4.jr ?_ hm⟩;·unfold execOp;simp only[ar,ex,nk,bo,dg,bd,bR]
    ·unfold K7;rcases aR with⟨rfl,rfl⟩ | ⟨x9,j,w',rfl,rfl,af⟩
     ·cases ok
      ·exact AR
      ·exact .AL (.cons AR (.cons (by simp only[ay];rfl) .nil))
     ·cases ok
      ·exact af
      ·exact .AL (.cons af (.cons (by simp only[ay];rfl) .nil))
   cases r with
   |none=>exact fin pz (.inl ⟨rfl,rfl⟩)| some x9=>obtain⟨j,w,az,af⟩:=pz;exact fin az (.inr ⟨x9,j,w,rfl,rfl,af⟩)
  ·cases h
 ·cases h
def LI(aA:bV X.P X.E){z:Operand}(ar:o.op=.mapUpdate t x y z\/o.op=.insert t x y z)(h:bg o.dst (xT X.E t m (bS ah x) (bS ah y) (bS ah z)) (λ_=>none)=some (v,m'))(H:fr D F ah o.op.operands.toList)
  (hm:bP (b' X G pr) D m I M) (k:lh X G pr D m I M v m' o.dst F C K):a9 X o F C I M K:=by
 cases x6:o.dst with
 |some d=>rw[x6]at h;cases h
 |none=>
  rw[x6]at h k;have aD:xT X.E t m (bS ah x) (bS ah y) (bS ah z)=some (v,m'):=h;have n4:∀ q,q=x\/q=y\/q=z->q∈o.op.operands.toList:=λq aR=>by
   rcases ar with ar | ar<;>rw[ar]<;>simp[Op.operands]<;>exact aR
  unfold xT at aD;split at aD
  ·rename_i sa l1 sz dq e id Tt mf aq U aa ak;obtain⟨o1,aD⟩:=dR aD;split at aD
   ·rename_i es aw;obtain⟨nM,iG,aD⟩:=bD aD;obtain⟨cD,aL,be⟩:=aO.jn (some (dm.map nM)) m.t id;have hE:(m.t.iu (some (dm.map nM)) id λt=>some (ai.t [],(⟨t,m.n⟩:aU)))=some (v,m'):=aD;rw[aL]at hE;cases hE;obtain⟨d,dv,dN⟩:=(aA _ _ aq).dr;have e7:d=.map dq e:=by cases d<;>simp_all[dh]
    subst e7;obtain⟨q7,oA,ti⟩:=LA aA o1;obtain⟨lX,ax,aI⟩:=H.a' (x:=x) (n4 x (.inl rfl)) U;obtain⟨jN,aS,aQ⟩:=H.a' (x:=y) (n4 y (.inr (.inl rfl))) aa;obtain⟨oG,b5,bG⟩:=H.a' (x:=z) (n4 z (.inr (.inr rfl))) ak;obtain⟨a,aN,rfl⟩:=aI.map';have he:=hm.fc _ _ _ aw aN;obtain⟨l,clock,aZ,Fa⟩:=he.LH;have fin:∀ (bY:List MapEntry) (tj:Nat),kv D nM bY->(∀ w:World,w.heap[a.b]?=some (.map l.toArray clock)->(Instr.mapUpdate t (.map (some a.b)) jN oG).run X.P w=.ok () { w with heap:=w.heap.setIfInBounds a.b (.map bY.toArray tj) }) ->
      a9 X o F C I M K:=λbY tj kL dg=>by
     obtain⟨pre,post,cX⟩:=nL aZ;have iw:M.Perm (⟨a.b,.map l.toArray clock⟩::(pre++post)):=by rw[cX];exact q2
     refine Tr x6 (by rcases ar with ar | ar<;>rw[ar]<;>simp) fun β ac w h'=>?_;have aM:bE X β ac w F C I (⟨a.b,.map l.toArray clock⟩::(pre++post)):=h'.gh (.perm iw .refl);have p8:=h'.holds.m _ aZ;have ex:=b1 aM.ah ax;have nk:=b1 aM.ah aS;have C9:=b1 aM.ah b5;have g2:=MapKept.heap_set (o':=Obj.map bY.toArray tj) p8;refine⟨_,I,⟨a.b,.map bY.toArray tj⟩::(pre++post),?_,aM.swap (w':={ w with heap:=w.heap.setIfInBounds a.b (.map bY.toArray tj) }) (by simp) g2.1 g2.2 ⟨rfl,rfl⟩,?_⟩
     ·unfold execOp;rcases ar with ar | ar<;>simp only[ar,ex,nk,C9,bo,dg w p8,bd,bR]
     ·have pA:∀ q∈M,q.num≠a.b->q∈(⟨a.b,.map bY.toArray tj⟩:aC)::(pre++post):=λq aR aF=>by
       rcases cU.1 (iw.mem_iff.1 aR)with rfl | aR;·exact(aF rfl).elim
       ·exact iO _ aR
      refine k D (.tuple #[]) _ a4.jr (by simp only[ay];exact⟨[],.nil,rfl⟩) ?_;refine hm.step (λi e hi=>(be i e hi).imp (λq=>⟨q.1,jo q.2⟩) λq=>q) aN (a4.le_refl D) (λ_ _=>rfl) hm.fJ (λ_ _ h=>h) (λi e bl br hi kw q aR aF=>pA q aR ?_) (.map bY tj (by simp) kL) ?_;·rw[aF];exact λag=>br (hm.inj _ _ _ _ _ _ hi aw kw aN ag)
      ·exact λi e bl br hi kw ag=>br (hm.inj _ _ _ _ _ _ hi aw kw aN ag)
    rcases LD ti aQ bG 0 Fa iG with⟨az,ej⟩ | ⟨j,b2,az,ap,an,zY⟩;·exact fin _ (clock+1) (ej clock) λw p8=>Tn dv oA (ti.isKey aQ) p8 az
    ·rw[dd]at az;have sF:b2.key=jN:=by
      cases ti with
      |int=>
       have:=aQ.int;subst this;cases aj:b2.key<;>rw[aj]at an<;>simp[Instr.sameNow]at an
       obtain⟨rfl,h⟩:=an;rw[h]
      |str=>
       have:=aQ.str;subst this;cases aj:b2.key<;>rw[aj]at an<;>simp[Instr.sameNow,LB]at an
       rw[an]
     exact fin _ clock zY λw p8=>To dv oA (ti.isKey aQ) p8 az ap sF
   ·cases aD
  ·cases aD
end
section
variable{X:bO}{G:GT}{pr:g5}{D:a4}{m m':aU}{F:Fr}{ah:aO ai}{C:b6}{I:aG}{M:List aC}{K:dE}{o:Oper}{v:ai}
def LJ(aA:bV X.P X.E)(ao:∀ d,o.dst=some d->d<X.n){s d:Nat}(ar:o.op=.convert s d x){cm bU:Nat}{Tu:List Value}(an:X.E s=some ⟨bK,cR,p7,.slice e⟩)(e7:X.E d=some ⟨cm,bU,Tu,.string⟩)(ag:u9 (X.E e)=true)
  {id off n:Nat} (h:Aw G m id off n=some (v,m')) (ab:∃ a c,D id=some a/\a' F x=.val (.slice (some ⟨a.b,a.o+off,none⟩) n c)) (hm:bP (b' X G pr) D m I M)
  (k:lh X G pr D m I M v m' o.dst F C K):a9 X o F C I M K:=by
 unfold Aw at h;obtain⟨a,c,aN,ex⟩:=ab;obtain⟨ad,l,vs,ax,cj,au,h⟩:=ry (u:=.pointer (some ⟨a.b,a.o+off,none⟩)) hm (by simp only[ay];exact⟨a,aN,rfl⟩) h;cases ax;obtain⟨bz,wQ,h⟩:=bD h;cases h;have e5:=E' wQ au;have hlen:bz.length=n:=by have:=cj.2;obtain⟨_,_,_,_,_,aa⟩:=this;rw[<-aa,e5];simp
 subst e5;obtain⟨av,he,iG⟩:∃ av,X.E e=some av/\av.bc=.int .u8:=by
  unfold u9 at ag;split at ag;·rename_i h;exact⟨_,h,rfl⟩
  ·cases ag
 refine a9.RG aA ar ao an rfl he iG e7 rfl ex hlen cj ?_;exact k D _ M a4.jr (by simp only[ay]) hm
def Tv(aA:bV X.P X.E)(ao:∀ d,o.dst=some d->d<X.n){s d:Nat}(ar:o.op=.convert s d x)(h:Ax (b' X G pr) m s d (bS ah x)=some (v,m'))(H:fr D F ah o.op.operands.toList)(hm:bP (b' X G pr) D m I M)
  (k:lh X G pr D m I M v m' o.dst F C K):a9 X o F C I M K:=by
 unfold Ax at h;rw[ar]at H;split at h
 ·rename_i U aa ak;obtain⟨ag,h⟩:=dR h;obtain⟨u,ax,aI⟩:=H.a' (x:=x) (by simp[Op.operands]) ak;obtain⟨a,aN,rfl⟩:=aI.l0;exact LJ aA ao ar U aa ag h ⟨a,_,aN,ax⟩ hm k
 ·rename_i U aa ak;obtain⟨ag,h⟩:=dR h;obtain⟨u,ax,aI⟩:=H.a' (x:=x) (by simp[Op.operands]) ak;obtain⟨a,aN,_,rfl⟩:=aI.nK;exact LJ aA ao ar U aa ag h ⟨a,_,aN,ax⟩ hm k
 ·rename_i U aa ak;obtain⟨ag,h⟩:=dR h;obtain⟨u,ax,aI⟩:=H.a' (x:=x) (by simp[Op.operands]) ak;cases h;simp only[ay]at aI;subst aI;obtain⟨av,he,iG⟩:∃ av,X.E _=some av/\av.bc=.int .u8:=by
   unfold u9 at ag;split at ag;·rename_i h;exact⟨_,h,rfl⟩
   ·cases ag
  refine a9.RH aA ar ao U rfl he iG aa rfl ax ?_;exact k D _ M a4.jr (by simp only[ay]) hm
 ·cases h
def LK(q:List UInt8):a6 D (q.map λb=>ai.i .u8 (.ofNat b.toNat)) (gQ ⟨q.toArray⟩):=by
 unfold gQ;simp only
 induction q with
 |nil=>exact .nil| cons b q aX=>exact .cons (by simp only[ay];rfl) aX
def AS{l:List Operand}{a b:ai}(h:iN ah l=some [a,b]):∃ x y,l=[x,y]/\bS ah x=some a/\bS ah y=some b:=by
 match l,h with
 |[],h=>simp[iN]at h
 |[x],h=>
  simp only[iN]at h;split at h;·rename_i ax aS;cases aS;cases h
  ·cases h
 |[x,y],h=>
  simp only[iN]at h;split at h
  ·rename_i ax aS;split at aS
   ·rename_i b5 ea;cases ea;cases aS;cases h;exact⟨x,y,rfl,ax,b5⟩
   ·cases aS
  ·cases h
 |x::y::z::l,h=>
  simp only[iN]at h;split at h
  ·rename_i ax aS;split at aS
   ·rename_i b5 ea;split at ea
    ·cases ea;cases aS;cases h
    ·cases ea
   ·cases aS
  ·cases h
def bP.sub{M':List aC}(h:bP (b' X G pr) D m I M)(an:∀ x∈M,x∈M'):bP (b' X G pr) D m I M':=
 ⟨λid e a hi aN=>(h.fc id e a hi aN).mono (a4.le_refl D) (λx ab _=>an x ab),h.inj,h.fJ,h.kt⟩
def Tw(aA:bV X.P X.E)(ao:∀ d,o.dst=some d->d<X.n){args:Array Operand}(ar:o.op=.call { callee:=.builtin .copy,args:=args,argTypes:=c6 })(h:EB (b' X G pr) m c6.toList (iN ah args.toList)=some (v,m'))
  (H:fr D F ah args.toList) (hm:bP (b' X G pr) D m I M) (k:lh X G pr D m I M v m' o.dst F C K):a9 X o F C I M K:=by
 unfold EB at h;split at h
 ·rename_i t u id off n c q aq au;split at h
  ·rename_i sa l1 sz e iY;obtain⟨av,he,h⟩:=bD h;obtain⟨ag,h⟩:=dR h;rw[bs]at ag;obtain⟨m2,aa,-,-,ak⟩:=E9 (Y:=b' X G pr) h;cases aa;obtain⟨x,y,hN,o2,Tx⟩:=AS au;obtain⟨lX,ab,aQ⟩:=H.a' (x:=x) (by rw[hN];simp) o2;obtain⟨jN,aE,eU⟩:=H.a' (x:=y) (by rw[hN];simp) Tx;obtain⟨a,aN,rfl⟩:=aQ.l0;have Ty:=eU.str;subst Ty;obtain⟨g,yS,pre,post,arr,T,b5,aZ,fy,j3,⟨e2,b2,fB,g6,zI,aw⟩,hp⟩:=ak hm (u:=.pointer (some ⟨a.b,a.o+off,none⟩)) (by simp only[ay];exact⟨a,aN,rfl⟩) (LK q);cases b5;have iw:M.Perm (⟨a.b,.cells arr T (0,0)⟩::(pre++post)):=by rw[aZ];exact q2
   have tk:args=#[x,y]:=by apply dT;simpa using hN
   have tl:c6=#[t,u]:=by apply dT;simpa using aq
   have bW:(⟨q.toArray⟩:ByteArray).size=q.length:=by simp[ByteArray.size]
   have mu:(gQ ⟨q.toArray⟩).length=q.length:=by simp[gQ]
   refine a9.HL aA (by rw[ar,tk,tl]) ao iY rfl he (cb ag.1) ab aE (by rw[bW];exact bk ag.2) (by rw[bW,<-mu];exact fy) iw ?_;rw[bW];have Tz:(pre++(⟨a.b,.cells (bt arr.toList (a.o+off) (gQ ⟨q.toArray⟩)).toArray T (0,0)⟩:aC)::post).Perm (⟨a.b,.cells (bt arr.toList (a.o+off) (gQ ⟨q.toArray⟩)).toArray T (0,0)⟩::(pre++post)):=q2;exact k D (.int .i64 q.length) _ a4.jr (by simp only[ay];rfl) (hp.sub λx ab=>Tz.mem_iff.1 ab)
  ·cases h
 ·cases h
end
section
variable{P:Program}{w:World}
def LL(t u ty e:Nat)(i:TypeInfo)(aq:P.underlying t=some (.slice e))(hu:P.underlying u=some i')(j':∀ k,i'≠.int k)(hi:P.info? e=some i)
 {n c T:Nat} (aw:w.heap[g]?=some (.cells arr T (0,0))) {x:Value} {m:Nat} (U:∀ v∈news,v.oneCell'=true)
  (hlen:∀ w',(Builtin.lenOf x).run P w'=.ok m w') (ej:(Builtin.firstCells i.size m x).run P w=.ok news.toArray w) (my:n+m<=c) (fy:off+n*i.size+news.length<=arr.size) :
  (Builtin.append_ #[t,u] ty #[.slice (some ⟨g,off,none⟩) n c,x]).run P w=.ok (.slice (some ⟨g,off,none⟩) (n+m) c) (w.setRow g (bt arr.toList (off+n*i.size) news).toArray):=by
 have wJ:(match i' with | .int _=>true | _=>false)=false:=by cases i'<;>first | rfl | exact(j' _ rfl).elim
 have g3:=run_storeCells_at P g (off+n*i.size) T news 0 arr w aw (by simpa using fy) U;simp only[mW]at g3;have TA:(Addr.add ⟨g,off,none⟩ (n*i.size))=⟨g,off+n*i.size,none⟩:=cY _ rfl _;simp[Builtin.append_,run_underlying aq,run_underlying hu,sizeOf,typeInfo,hi,hlen,my,ej,TA,g3,bt]
def TB(t u ty e:Nat)(i:TypeInfo)(z:Value)(aq:P.underlying t=some (.slice e))(hu:P.underlying u=some i')(j':∀ k,i'≠.int k)(hi:P.info? e=some i)(a2:i.zero=some z)(mv:z.cells.size=i.size)
 {n c:Nat} (hold:(Builtin.firstCells i.size n (.slice base n c)).run P w.drew=.ok xs.toArray w.drew) (p9:xs.length=n*i.size) {x:Value} {m:Nat} (au:news.length=m*i.size)
  (hlen:∀ w',(Builtin.lenOf x).run P w'=.ok m w') (ej:(Builtin.firstCells i.size m x).run P w.drew=.ok news.toArray w.drew) (my:c<n+m) (cR:n+m<=maxLen) (bU:(n+m)*i.bytes<=140737488355328) :
  ∃ cap cur,(Builtin.append_ #[t,u] ty #[.slice base n c,x]).run P w=.ok (.slice (some ⟨w.heap.size,0,none⟩) (n+m) cap) (w.drew.alloc (.cells (xs++news++cur).toArray e (0,0)))/\n+m<=cap/\cap<=maxLen/\(xs++news++cur).length=cap*i.size:=by
 have wJ:(match i' with | .int _=>true | _=>false)=false:=by cases i'<;>first | rfl | exact(j' _ rfl).elim
 have aF:¬ (n+m<=c):=by omega
 have nh:n+m<=9223372036854775807:=by simp only[maxLen]at cR;exact cR
 have wK:¬ (9223372036854775807<((n:Int)+(m:Int))):=by omega
 have wL:¬ (281474976710656<Builtin.nextslicecap (n+m) c*i.bytes):=by have:=growslice_fits (by omega:c<n+m) bU;omega
 have eD:=grownCap_ge w (n+m) c e;have hG:grownCap w (n+m) c e<=maxLen:=grownCap_le_maxLen w (n+m) c e cR;refine⟨grownCap w (n+m) c e,(Builtin.zeroCells z.cells (grownCap w (n+m) c e-(n+m))).toList,?_,eD,hG,?_⟩
 ·simp[Builtin.append_,run_underlying aq,run_underlying hu,sizeOf,typeInfo,zeroValue,hi,a2,hlen,aF,wK,wL,Question.forced,ej,hold,newRow,grownCap];congr 2;apply dT;simp
 ·rw[cP,cP,p9,au,qI,size_zeroCells,mv,<-h9,<-h9];congr 1;omega
end
section
variable{X:bO}{G:GT}{pr:g5}{D:a4}{m m':aU}{F:Fr}{ah:aO ai}{C:b6}{I:aG}{M:List aC}{K:dE}{o:Oper}{v:ai}
def cx.Fb{ad:Addr}{n:Nat}{vs:List Value}(h:cx I M ad n vs)(g0:cL I M w)(j:Nat)(v:Value)(ap:vs[j]?=some v):w.cell? (ad.add j)=some v:=by
 obtain⟨cX,cs,T,ah,gJ,af,au⟩:=h;rw[cY _ cX,pq (gJ.heap g0)];rw[<-af,hW]at ap;split at ap
 ·rw[l8]at ap;simpa using ap
 ·cases ap
def TC{x:ai}{k:Nat}{K:List ai->Option R}{r:R}(h:u' G m.t x av.size K=some r)(an:oV ut av x=true)(ab:ay D x u)(hm:bP (b' X G pr) D m I M)(aj:lZ x=some k)(aD:k≠0) :
  ∃ l vs,K l=some r/\a6 D l vs/\(∀ w',(Builtin.lenOf u).run X.P w'=.ok k w')/\(∀ w,cL I M w->(Builtin.firstCells av.size k u).run X.P w=.ok vs.toArray w)/\vs.length=k*av.size /\
   ((∃ a b z e,ut=some ⟨a,b,z,.slice e⟩)\/∃ a b z,ut=some ⟨a,b,z,.string⟩):=by
 have Fc:(∃ a b z e,ut=some ⟨a,b,z,.slice e⟩)\/∃ a b z,ut=some ⟨a,b,z,.string⟩:=by
  unfold oV at an;split at an<;>first | exact .inl ⟨_,_,_,_,rfl⟩ | exact .inr ⟨_,_,_,rfl⟩ | cases an
 cases x<;>simp only[u']at h<;>first | cases h | skip
 case sn=>simp[lZ,oU]at aj;exact(aD aj.symm).elim
 case so=>simp[lZ,oU]at aj;exact(aD aj.symm).elim
 case sl id off n c=>
  simp only[lZ,oU,hr]at aj;subst aj;obtain⟨a,aN,rfl⟩:=ab.l0;obtain⟨ad,l,vs,ax,cj,au,h⟩:=ry (u:=.pointer (some ⟨a.b,a.o+off,none⟩)) hm (by simp only[ay];exact⟨a,aN,rfl⟩) h;cases ax;have x':=cj;obtain⟨_,_,_,_,_,_,hlen⟩:=x';exact⟨l,vs,h,au,λ_=>rfl,λw hw=>run_firstCells_some (P:=X.P) w av.size n _ n c vs hlen (λj v ap=>cj.Fb hw j v ap),hlen,Fc⟩
 case sx id off e n=>
  simp only[lZ,oU,hr]at aj;subst aj;obtain⟨a,aN,_,rfl⟩:=ab.nK;obtain⟨ad,l,vs,ax,cj,au,h⟩:=ry (u:=.pointer (some ⟨a.b,a.o+off,none⟩)) hm (by simp only[ay];exact⟨a,aN,rfl⟩) h;cases ax;have x':=cj;obtain⟨_,_,_,_,_,_,hlen⟩:=x';exact⟨l,vs,h,au,λ_=>rfl,λw hw=>run_firstCells_some (P:=X.P) w av.size n _ n _ vs hlen (λj v ap=>cj.Fb hw j v ap),hlen,Fc⟩
 case s q=>
  simp only[lZ,hr]at aj;subst aj;have TD:av.size=1:=by
   unfold oV at an;split at an<;>first | exact cb an | (rename_i e;cases e) | cases an
  have:=ab.str;subst this;have aR:(⟨q.toArray⟩:ByteArray).size=q.length:=by simp[ByteArray.size]
  refine⟨_,gQ ⟨q.toArray⟩,h,LK q,λw=>?_,λw hw=>?_,by simp[gQ,TD],Fc⟩;·show Result.ok _ _=_;rw[aR]
  ·have:=Hy w av.size (P:=X.P) ⟨q.toArray⟩;rw[aR]at this;exact this
def Fe(aA:bV X.P X.E)(ao:∀ d,o.dst=some d->d<X.n){u:Nat}(ar:o.op=.call { callee:=.builtin .append,args:=#[s,x],argTypes:=#[t,u] })
 (aq:X.E t=some ⟨bK,cR,p7,.slice e⟩) (hu:X.E u=some iC) (di:∀ k,iC.bc≠.int k) (he:X.E e=some av)
 {n c k:Nat} {Ff:Value} (an:a' F s=.val (.slice base n c)) (ab:a' F x=.val Ff) (p9:xs.length=n*av.size) (kT:news.length=k*av.size) (U:eP news=true)
  (hlen:∀ w',(Builtin.lenOf Ff).run X.P w'=.ok k w') (ej:∀ w,cL I M w->(Builtin.firstCells av.size k Ff).run X.P w=.ok news.toArray w)
  (hold:∀ w,cL I M w->(Builtin.firstCells av.size n (.slice base n c)).run X.P w=.ok xs.toArray w) (cR:n+k<=maxLen) (bU:(n+k)*av.bytes<=140737488355328)
  (TE:n+k<=c->∃ g off T arr pre post,base=some ⟨g,off,none⟩/\M=pre++⟨g,.cells arr T (0,0)⟩::post/\off+n*av.size+news.length<=arr.size /\ K (put o.dst (.val (.slice base (n+k) c)) F) C I (pre++⟨g,.cells (bt arr.toList (off+n*av.size) news).toArray T (0,0)⟩::post))
  (TF:c<n+k->∀ b cap cur,I b=none->(∀ y∈M,y.num≠b)->n+k<=cap->cap<=maxLen->(xs++news++cur).length=cap*av.size ->
   K (put o.dst (.val (.slice (some ⟨b,0,none⟩) (n+k) cap)) F) C I (⟨b,.cells (xs++news++cur).toArray e (0,0)⟩::M)):a9 X o F C I M K:=by
 refine⟨λa w Q ⟨β,aM⟩=>?_⟩;obtain⟨inf,z,hi,ec,gK,fD,g1⟩:=(aA _ _ he).inf;obtain⟨d,dv,dN⟩:=(aA _ _ hu).dr;obtain⟨kX,oj,kY⟩:=(aA _ _ aq).dr;have pF:kX=.slice e:=by cases kX<;>simp_all[dh]
 subst pF;have mv:z.cells.size=inf.size:=by rw[ec,<-(aA _ _ he).len,<-g1];simp
 have es:=b1 aM.ah an;have ex:=b1 aM.ah ab;have j':∀ k,d≠.int k:=λk b2=>di k (by rw[<-dN,b2];rfl);rw[<-ec]at p9 kT hold ej;by_cases my:n+k<=c
 ·obtain⟨g,off,T,arr,pre,post,rfl,aZ,fy,aj⟩:=TE my;rw[<-ec]at fy aj;have aw:w.heap[g]?=some (.cells arr T (0,0)):=aM.holds.m ⟨g,.cells arr T (0,0)⟩ (by rw[aZ];simp);have dg:=LL (P:=X.P) (w:=w) t u o.type e inf oj dv j' hi aw (tM U) hlen (ej w aM.holds) my fy;refine fC (by rw[ar];simp) ?_ ⟨_,_,_,_,⟨β,bE.put (x:=.val (.slice (some ⟨g,off,none⟩) (n+k) c)) (aM.qm aZ) ao rfl⟩,aj⟩;unfold execOp;simp only[ar,resolve,invoke,builtin,bo,bR,bd,od,cC,lD,es,ex,dg]
 ·have g0:cL I M w.drew:=aM.holds.heap rfl;obtain⟨cap,cur,dg,aa,ak,aL⟩:=TB (P:=X.P) (w:=w) t u o.type e inf z oj dv j' hi fD mv (hold w.drew g0) p9 kT hlen (ej w.drew g0) (by omega) cR (by rw[gK];exact bU);have kZ:bE X β a w.drew F C I M:=aM.world rfl;rw[ec]at aL;refine fC (by rw[ar];simp) ?_ ⟨_,_,_,_,⟨β,bE.put (x:=.val (.slice (some ⟨w.heap.size,0,none⟩) (n+k) cap)) (kZ.j1 (.cells (xs++news++cur).toArray e (0,0))) ao rfl⟩,TF (by omega) w.heap.size cap cur aM.holds.lr aM.holds.kG aa ak aL⟩;unfold execOp;simp only[ar,resolve,invoke,builtin,bo,bR,bd,od,cC,lD,es,ex,dg]
def LM{u:Nat}{x:ai}(h:oV (X.E u) av x=true):∃ iC,X.E u=some iC/\∀ k,iC.bc≠.int k:=by
 unfold oV at h;split at h<;>first | (cases h;done) | (rename_i e;exact⟨_,e,by simp⟩) | (rename_i e _;exact⟨_,e,by simp⟩) | (rename_i e _ _;exact⟨_,e,by simp⟩)
def TG{s:ai}(h:vb s=true)(an:ay D s u):∃ a n c,u=.slice a n c/\n<=c:=by
 cases s<;>simp only[vb,gG]at h
 case sn=>exact⟨_,_,_,an.tg,cK _⟩
 case so=>obtain⟨a,c,rfl⟩:=an.AJ;exact⟨_,_,_,rfl,gq _⟩
 case sl=>obtain⟨a,_,rfl⟩:=an.l0;exact⟨_,_,_,rfl,bk h⟩
 case sx=>obtain⟨a,_,hle,rfl⟩:=an.nK;exact⟨_,_,_,rfl,by omega⟩
def TH{x:ai}(an:oV ut av x=true)(ab:ay D x u)(aj:lZ x=some 0):(∃ b c,u=.slice b 0 c)\/u=.string .empty:=by
 cases x<;>simp[lZ,oU]at aj
 case sn=>exact .inl ⟨_,_,ab.tg⟩
 case so=>obtain⟨a,c,rfl⟩:=ab.AJ;exact .inl ⟨_,_,rfl⟩
 case sl=>subst aj;obtain⟨a,_,rfl⟩:=ab.l0;exact .inl ⟨_,_,rfl⟩
 case sx=>subst aj;obtain⟨a,_,_,rfl⟩:=ab.nK;exact .inl ⟨_,_,rfl⟩
 case gs=>subst aj;exact .inl ⟨_,_,ab.ES⟩
 case s=>subst aj;exact .inr ab.str
noncomputable abbrev Fg(X:bO)(G:GT)(m:aU)(s x:ai)(av:cF)(kn e:Nat):List ai->Option (ai×aU):=λl=>bg (some kn) none λk=>bf (Nat.beq k 0) (bf (vb s) (some (s,m)) none) (bf (l.all ai.one) (xQ G m s l k av.size av.bytes e) none)
def TI(aA:bV X.P X.E)(ao:∀ d,o.dst=some d->d<X.n){u:Nat}(ar:o.op=.call { callee:=.builtin .append,args:=#[os,jO],argTypes:=#[t,u] })
 (aq:X.E t=some ⟨bK,cR,p7,.slice e⟩) {s x:ai} (l2:oV (X.E u) av x=true) (he:X.E e=some av) (aj:lZ x=some 0) {us:Value}
  (es:a' F os=.val us) (gs:ay D s us) (ex:a' F jO=.val ha) (rD:ay D x ha) (h:u' G m.t x av.size (Fg X G m s x av 0 e)=some (v,m'))
  (hm:bP (b' X G pr) D m I M) (k:lh X G pr D m I M v m' o.dst F C K):a9 X o F C I M K:=by
 have aa:∃ l,Fg X G m s x av 0 e l=some (v,m'):=by
  cases x<;>simp only[u']at h<;>first | cases h | exact⟨_,h⟩ | skip
  case sl=>obtain⟨a,aN,rfl⟩:=rD.l0;obtain⟨_,l,_,_,_,_,h⟩:=ry (u:=.pointer (some ⟨a.b,a.o+_,none⟩)) hm (by simp only[ay];exact⟨a,aN,rfl⟩) h;exact⟨l,h⟩
  case sx=>obtain⟨a,aN,_,rfl⟩:=rD.nK;obtain⟨_,l,_,_,_,_,h⟩:=ry (u:=.pointer (some ⟨a.b,a.o+_,none⟩)) hm (by simp only[ay];exact⟨a,aN,rfl⟩) h;exact⟨l,h⟩
 obtain⟨l,aa⟩:=aa;have ak:bf (vb s) (some (s,m)) none=some (v,m'):=aa;obtain⟨aB,ak⟩:=dR ak;cases ak;obtain⟨a,n,c,rfl,iF⟩:=TG aB gs;obtain⟨iC,hu,di⟩:=LM l2;exact a9.Cv aA ar ao aq rfl hu di he es iF ex (TH l2 rD aj) (k D _ M a4.jr gs hm)
def TJ(aA:bV X.P X.E)(ao:∀ d,o.dst=some d->d<X.n){u:Nat}(ar:o.op=.call { callee:=.builtin .append,args:=#[os,jO],argTypes:=#[t,u] })
 (aq:X.E t=some ⟨bK,cR,p7,.slice e⟩) (hu:X.E u=some iC) (di:∀ k,iC.bc≠.int k) (he:X.E e=some av) {us:Value} {id off n c kn:Nat}
  (es:a' F os=.val us) (gs:ay D (.sl id off n c) us) (ex:a' F jO=.val ha) {l:List ai} {vs:List Value} (h:Ex G m id off n c l kn av.size e=some (v,m')) (nh:n+kn<=maxLen) (kK:(n+kn)*av.bytes<=140737488355328)
  (au:a6 D l vs) (lV:vs.length=kn*av.size) (U:eP vs=true) (hlen:∀ w',(Builtin.lenOf ha).run X.P w'=.ok kn w') (ej:∀ w,cL I M w->(Builtin.firstCells av.size kn ha).run X.P w=.ok vs.toArray w)
  (hm:bP (b' X G pr) D m I M) (k:lh X G pr D m I M v m' o.dst F C K):a9 X o F C I M K:=by
 have ya:∀ {q:List Value} {c:Nat},q.length=c*av.size->∀ i,(b' X G pr).E e=some i->q.length=c*i.size:=λaR i hi=>by have:X.E e=some i:=hi;rw[he]at this;cases this;exact aR
 obtain⟨a,aN,rfl⟩:=gs.l0;unfold Ex at h;by_cases al:n+kn<=c
 ·have ag:Nat.ble (Nat.add n kn) c=true:=uK al;rw[ag]at h;have aP:p4 m (.p id (Nat.add off (Nat.mul n av.size))) l (λm=>some (ai.sl id off (Nat.add n kn) c,m))=some (v,m'):=h;obtain⟨m2,aa,-,-,ak⟩:=E9 (Y:=b' X G pr) aP;cases aa;obtain⟨g,yS,pre,post,arr,T,ax,aZ,fy,j3,⟨e2,b2,fB,g6,zI,aw⟩,hp⟩:=ak hm (u:=.pointer (some ⟨a.b,a.o+(off+n*av.size),none⟩)) (by simp only[ay];exact⟨a,aN,rfl⟩) au;cases ax;refine⟨λac w Q ⟨β,aM⟩=>?_⟩;obtain⟨inf,z,hi,ec,gK,fD,g1⟩:=(aA _ _ he).inf;obtain⟨d,dv,dN⟩:=(aA _ _ hu).dr;obtain⟨kX,oj,kY⟩:=(aA _ _ aq).dr;have pF:kX=.slice e:=by cases kX<;>simp_all[dh]
  subst pF;have aw:w.heap[a.b]?=some (.cells arr T (0,0)):=aM.holds.m ⟨a.b,.cells arr T (0,0)⟩ (by rw[aZ];simp);have nM:=b1 aM.ah es;have tm:=b1 aM.ah ex;rw[<-ec]at ej;have dg:=LL (P:=X.P) (w:=w) t u o.type e inf oj dv (λk b2=>di k (by rw[<-dN,b2];rfl)) hi aw (tM U) hlen (ej w aM.holds) al (off:=a.o+off) (by rw[ec];omega);rw[ec,kD]at dg;have kZ:=aM.qm (cs':=(bt arr.toList (a.o+(off+n*av.size)) vs).toArray) aZ;refine fC (by rw[ar];simp) ?_ ⟨_,_,_,_,⟨β,bE.put (x:=.val (.slice (some ⟨a.b,a.o+off,none⟩) (n+kn) c)) kZ ao rfl⟩,?_⟩;·unfold execOp;simp only[ar,resolve,invoke,builtin,bo,bR,bd,od,cC,lD,nM,tm,dg]
  ·exact k D _ _ a4.jr (by simp only[ay];exact⟨a,aN,rfl⟩) hp
 ·have ag:Nat.ble (Nat.add n kn) c=false:=by
   cases ag:Nat.ble (Nat.add n kn) c with
   |false=>rfl| true=>exact absurd (bk ag) al
  rw[ag]at h;have aP:oT G m.t (.p id off) (Nat.mul n av.size) (λcp=>nI m (cp++l) e λid m=>some (ai.sx id 0 0 (Nat.add n kn),m))=some (v,m'):=h;obtain⟨ad,cp,xs,ax,cj,dx,aa⟩:=ry (u:=.pointer (some ⟨a.b,a.o+off,none⟩)) hm (by simp only[ay];exact⟨a,aN,rfl⟩) aP;cases ax;obtain⟨m2,bT,aF,er⟩:=E5 (Y:=b' X G pr) aa;cases bT;have x':=cj;obtain⟨_,_,_,_,_,_,jJ⟩:=x';refine Fe aA ao ar aq hu di he es ex jJ lV U hlen ej (λw hw=>run_firstCells_some (P:=X.P) w av.size n _ n c xs jJ (λj v ap=>cj.Fb hw j v ap)) nh kK (λeR=>(al eR).elim) λ_ b cap cur a7 az tn sZ yb=>?_;refine k _ _ _ a4.vm ?_ (er cur hm az (dx.append au) (ya yb) sZ);simp only[ay];exact⟨_,a4.lg _ _ _,by simpa using tn,by simp⟩
def TK(aA:bV X.P X.E)(ao:∀ d,o.dst=some d->d<X.n){u:Nat}(ar:o.op=.call { callee:=.builtin .append,args:=#[os,jO],argTypes:=#[t,u] })
 (aq:X.E t=some ⟨bK,cR,p7,.slice e⟩) (hu:X.E u=some iC) (di:∀ k,iC.bc≠.int k) (he:X.E e=some av) {us:Value} {id n c3 kn:Nat} {cs:aO ai}
  (es:a' F os=.val us) (gs:ay D (.sx id 0 0 n) us) (ex:a' F jO=.val ha) (aw:m.t.get id=some (.cells cs e c3)) {l:List ai} {vs:List Value} (h:Ey m id n cs c3 l kn av.size e=some (v,m')) (nh:n+kn<=maxLen) (kK:(n+kn)*av.bytes<=140737488355328)
  (au:a6 D l vs) (lV:vs.length=kn*av.size) (U:eP vs=true) (hlen:∀ w',(Builtin.lenOf ha).run X.P w'=.ok kn w') (ej:∀ w,cL I M w->(Builtin.firstCells av.size kn ha).run X.P w=.ok vs.toArray w)
  (hm:bP (b' X G pr) D m I M) (k:lh X G pr D m I M v m' o.dst F C K):a9 X o F C I M K:=by
 obtain⟨a,aN,hle,rfl⟩:=gs.nK;have j2:=hm.fc _ _ _ aw aN;obtain⟨arr,p',aZ,bW,aB,aj,gb⟩:=j2;unfold Ey at h;obtain⟨rB,h⟩:=dR h;have LN:n*av.size<=c3:=bk rB;obtain⟨t1,aa,ak⟩:=aO.jn (none:Option dm) m.t id;rw[aa]at h;obtain⟨cs',aL,be⟩:=aO.p6 l cs (Nat.mul n av.size);have aP:aO.p1 l cs (Nat.mul n av.size) (λcs=>tb (⟨t1,m.n⟩:aU) (.cells cs e (Nat.mul (Nat.add n kn) av.size)) λid m=>some (ai.sx id 0 0 (Nat.add n kn),m))=some (v,m'):=h;rw[aL]at aP;obtain⟨t2,bT,er⟩:=x5 aP;cases er;have hJ:∀ i cW,t1.get i=some cW->i≠id/\m.t.get i=some cW:=λi cW hi=>by
  rcases ak i cW hi with⟨_,eH⟩ | eH;·cases eH
  ·exact eH
 have LO:bP (b' X G pr) D ⟨t1,m.n⟩ I M:=⟨λi cW b hi=>hm.fc i cW b (hJ i cW hi).2,λi eb cW rE b ff hi cr=>hm.inj i eb cW rE b ff (hJ i cW hi).2 (hJ eb rE cr).2,hm.fJ,hm.kt⟩;have LP:arr.size=a.c*av.size:=by have:=aj av he;rw[p',dd]at this;exact this
 have AH:=au.len;have p9:((arr.toList.take (n*av.size)).length=n*av.size):=by rw[kW,qI];omega
 have Dn:∀ j,j<n*av.size->∀ v,cs.get j=some v->∃ x,(arr.toList.take (n*av.size))[j]?=some x/\ay D v x:=λj ap v af=>by obtain⟨x,aI,aQ⟩:=aB j v (by omega) af;rw[p',dd]at aI;exact⟨x,by rw[hW,ck ap];simpa using aI,aQ⟩
 have LQ:∀ (aW:a4) (M':List aC) (b cT:Nat) (rest:List Value),D.le aW->(⟨b,.cells (arr.toList.take (n*av.size)++vs++rest).toArray e (0,0)⟩:aC)∈M'->(arr.toList.take (n*av.size)++vs++rest).length=cT*av.size->cT<=maxLen ->
   gV aW X.E M' ⟨b,0,cT⟩ (.cells cs' e (Nat.mul (Nat.add n kn) av.size)):=by
  intro aW M' b cT rest bX TL TM TN;have hmul:(n+kn)*av.size=n*av.size+kn*av.size:=h9 _ _ _;refine .cells _ rfl TL ?_ (λi v hi x8=>?_) (λi hi=>?_) TN;·show 0+(n+kn)*av.size<=_;rw[mU,cP,cP,p9,lV];omega
  ·have cr:i<n*av.size+kn*av.size:=by have:i<(n+kn)*av.size:=hi;omega
   simp only[dd,rR];rcases be i v x8 with⟨aI,aQ⟩ | ⟨aI,aQ⟩;·have AT:n*av.size<=i:=aI;obtain⟨x,bG,eU⟩:=au.get (i:=i-n*av.size) aQ;refine⟨x,?_,eU.mono bX⟩;rw[hc,j8 (by omega),p9,kA (by omega)];exact bG
   ·have AT:i<n*av.size:=by
     rcases aI with aI | aI;·exact aI
     ·have:n*av.size+l.length<=i:=aI;omega
    obtain⟨x,bG,eU⟩:=Dn i AT v aQ;refine⟨x,?_,eU.mono bX⟩;rw[hc,kA (by omega)];exact bG
  ·rw[he]at hi;cases hi;simpa using TM
 refine Fe aA ao ar aq hu di he es ex p9 lV U hlen ej (λw hw=>?_) nh kK (λal=>?_) λ_ b cap cur a7 az tn sZ yb=>?_
 ·refine run_firstCells_some (P:=X.P) w av.size n _ n _ _ p9 λj v ap=>?_;rw[cY _ rfl,pq (hw.m _ aZ)];rw[hW]at ap;split at ap
  ·rw[p'];simpa using ap
  ·cases ap
 ·
  obtain⟨pre,post,cX⟩:=nL aZ;rw[Nat.sub_zero]at al;have fy:a.o+0+n*av.size+vs.length<=arr.size:=by have eE:=jX av.size al;rw[h9]at eE;rw[p',LP,lV];omega
  refine⟨a.b,a.o+0,e,arr,pre,post,rfl,cX,fy,?_⟩;have LR:bt arr.toList (a.o+0+n*av.size) vs=arr.toList.take (n*av.size)++vs++arr.toList.drop (n*av.size+vs.length):=by rw[p'];simp only[bt,dd]
  rw[LR];have pA:∀ q∈M,q.num≠a.b->q∈pre++(⟨a.b,.cells (arr.toList.take (n*av.size)++vs++arr.toList.drop (n*av.size+vs.length)).toArray e (0,0)⟩:aC)::post:=λq aR aF=>by
   rw[cX]at aR;rcases c9.1 aR with aR | aR;·exact c9.2 (.inl aR)
   ·rcases cU.1 aR with rfl | aR
    ·exact(aF rfl).elim
    ·exact c9.2 (.inr (iO _ aR))
  have yc:∀ i cW b,t1.get i=some cW->D i=some b->b.b≠a.b:=λi cW b hi ag to=>(hJ i cW hi).1 (hm.inj _ _ _ _ _ _ (hJ i cW hi).2 aw ag aN to);refine k _ _ _ a4.vm ?_ (LO.step (m:=⟨t1,m.n⟩) (j:=m.n) (λi cW hi=>(bT i cW hi).imp (λq=>⟨q.1,jo q.2⟩) λq=>q) (D.lg _ ⟨a.b,0,a.c⟩) (a4.rz _ hm.fresh) (λi hi=>by unfold a4.set;rw[cd hi]) (λi b ag=>?_) (λ_ _ h=>h) (λi cW b br hi ag q aR aF=>pA q aR (by rw[aF];exact yc i cW b hi ag)) (LQ _ _ _ _ (arr.toList.drop (n*av.size+vs.length)) (a4.rz _ hm.fresh) (by simp) ?_ gb) λi cW b br hi ag=>yc i cW b hi ag);·simp only[ay];exact⟨_,a4.lg _ _ _,by simpa using al,by rw[p'];rfl⟩
  ·unfold a4.set at ag;split at ag
   ·show i<m.n+1;omega
   ·have:=hm.fJ _ _ ag;show i<m.n+1;omega
  ·rw[<-LR,E8 (by simpa using fy)];simpa using LP
 ·
  refine k _ _ _ a4.vm ?_ (LO.new (m:=⟨t1,m.n⟩) (a:=⟨b,0,cap⟩) bT az (LQ _ _ _ _ _ (a4.rz _ hm.fresh) (by simp) yb sZ));simp only[ay];exact⟨_,a4.lg _ _ _,by simpa using tn,by simp⟩
def TO(aA:bV X.P X.E)(ao:∀ d,o.dst=some d->d<X.n){u:Nat}(ar:o.op=.call { callee:=.builtin .append,args:=#[os,jO],argTypes:=#[t,u] })
 (aq:X.E t=some ⟨bK,cR,p7,.slice e⟩) {s x:ai} (l2:oV (X.E u) av x=true) (he:X.E e=some av) {kn:Nat} (aj:lZ x=some kn) (aD:kn≠0) {us:Value}
  (es:a' F os=.val us) (gs:ay D s us) (ex:a' F jO=.val ha) (rD:ay D x ha) (h:u' G m.t x av.size (Fg X G m s x av kn e)=some (v,m'))
  (hm:bP (b' X G pr) D m I M) (k:lh X G pr D m I M v m' o.dst F C K):a9 X o F C I M K:=by
 obtain⟨l,vs,aa,au,hlen,ej,lV,_⟩:=TC (ut:=X.E u) h l2 rD hm aj aD;have ak:bf (Nat.beq kn 0) (bf (vb s) (some (s,m)) none) (bf (l.all ai.one) (xQ G m s l kn av.size av.bytes e) none)=some (v,m'):=aa;rw[eQ aD]at ak;have aL:bf (l.all ai.one) (xQ G m s l kn av.size av.bytes e) none=some (v,m'):=ak;obtain⟨j3,aL⟩:=dR aL;have U:=au.one j3;obtain⟨iC,hu,di⟩:=LM l2;have ya:∀ {q:List Value} {c:Nat},q.length=c*av.size->∀ i,(b' X G pr).E e=some i->q.length=c*i.size:=λaR i hi=>by have:X.E e=some i:=hi;rw[he]at this;cases this;exact aR
 cases s<;>simp only[xQ]at aL<;>first | cases aL | skip
 case sn=>
  obtain⟨ag,be⟩:=dR aL;rw[bs]at ag;obtain⟨m2,bT,aF,er⟩:=E5 (Y:=b' X G pr) be;cases bT;have TP:=gs.tg;subst TP;have nh:0+kn<=maxLen:=by rw[dd];exact bk ag.2
  have kK:(0+kn)*av.bytes<=140737488355328:=by rw[dd];exact bk ag.1
  refine Fe aA ao ar aq hu di he (n:=0) (c:=0) (xs:=[]) es ex (by simp) lV U hlen ej (λw _=>by simp[run_firstCells_none]) nh kK (λal=>by omega) λ_ b cap cur a7 az tn sZ yb=>?_;refine k _ _ _ a4.vm ?_ (er cur hm az au (ya yb) sZ);simp only[ay];exact⟨_,a4.lg _ _ _,by simpa using tn,by simp⟩
 case sl=>
  obtain⟨ag,be⟩:=dR aL;rw[bs]at ag;exact TJ aA ao ar aq hu di he es gs ex be (bk ag.2) (bk ag.1) au lV U hlen ej hm k
 case sx=>
  split at aL;·rename_i aw;obtain⟨ag,be⟩:=dR aL;simp only[bs]at ag;obtain⟨⟨fu,fF⟩,lR,zW,zX⟩:=ag;have d1:=cb fu;have d2:=cb fF;have d3:=cb lR;subst d1;subst d2;subst d3;exact TK aA ao ar aq hu di he es gs ex aw be (bk zX) (bk zW) au lV U hlen ej hm k
  ·cases aL
def TQ(aA:bV X.P X.E)(ao:∀ d,o.dst=some d->d<X.n){args:Array Operand}(ar:o.op=.call { callee:=.builtin .append,args:=args,argTypes:=c6 })(h:EA (b' X G pr) m c6.toList (iN ah args.toList)=some (v,m'))
  (H:fr D F ah args.toList) (hm:bP (b' X G pr) D m I M) (k:lh X G pr D m I M v m' o.dst F C K):a9 X o F C I M K:=by
 unfold EA at h;split at h
 ·rename_i t u s x aq au;split at h
  ·rename_i sa l1 sz e iY;obtain⟨av,he,h⟩:=bD h;obtain⟨l2,h⟩:=dR h;obtain⟨os,jO,hN,e6,o2⟩:=AS au;obtain⟨us,es,gs⟩:=H.a' (x:=os) (by rw[hN];simp) e6;obtain⟨ha,ex,rD⟩:=H.a' (x:=jO) (by rw[hN];simp) o2;have tk:args=#[os,jO]:=by apply dT;simpa using hN
   have tl:c6=#[t,u]:=by apply dT;simpa using aq
   have kS:o.op=.call { callee:=.builtin .append,args:=#[os,jO],argTypes:=#[t,u] }:=by rw[ar,tk,tl]
   cases aj:lZ x with
   |none=>
    exfalso;unfold oV at l2;split at l2<;>first | (cases l2;done) | (simp[lZ,oU]at aj;done)
   |some kn=>
    rw[aj]at h;by_cases aD:kn=0;·subst aD;exact TI aA ao kS iY l2 he aj es gs ex rD h hm k
    ·exact TO aA ao kS iY l2 he aj aD es gs ex rD h hm k
  ·cases h
 ·cases h
end
section
variable{X:bO}{β:Nat->Nat}{F:Fr}{C:b6}{I:aG}{M:List aC}{o:Oper}{K:dE}
def yd(aA:bV P E)(aq:E t=some cA)(cZ:cA.bc=.slice e):P.underlying t=some (.slice e):=by
 obtain⟨kX,oj,kY⟩:=(aA _ _ aq).dr;have pF:kX=.slice e:=by rw[cZ]at kY;cases kX<;>simp_all[dh]
 rw[oj,pF]
def eI.Fh(aA:bV P E)(aq:E t=some cA)(cZ:cA.bc=.slice e){a:Option Addr}{n c:Nat}{V:Value->Prop}{other:Prop}
  (h:V (.bool a.isNone)):eI P .eql t x y (.val (.slice a n c)) (.val (.slice none jR c')) V other:=by
 have U:=yd aA aq cZ;refine .mk _ _ _ rfl rfl (λw=>?_) h;have ax:(eqGuard .eql t x y (.slice a n c) (.slice none jR c')).run P w=.ok () w:=by unfold eqGuard;rfl
 simp only[bo,ax,bd];exact Lib.run_eql_slice_nil w t e a n c jR c' U
def a9.slice3(aA:bV X.P X.E)(ar:o.op=.slice t x (some lo) (some hi) (some mx))(ao:∀ d,o.dst=some d->d<X.n)
 (aq:X.E t=some cA) (cZ:cA.bc=.slice e) (he:X.E e=some av) {n c:Nat} (l h m:Nat) {cH:IntKind}
  (ab:a' F x=.val (.slice ad n c)) (dx:a' F lo=.val (.int cH (l:Nat))) (dU:a' F hi=.val (.int cz (h:Nat))) (gb:a' F mx=.val (.int eZ (m:Nat)))
  (U:l<=h) (aa:h<=m) (ak:m<=c) (k:K (put o.dst (.val (.slice (if m=l then ad else ad.map (·.add (l*av.size))) (h-l) (m-l))) F) C I M):a9 X o F C I M K:=by
 refine⟨λa w Q ⟨β,aM⟩=>?_⟩;have hu:=yd aA aq cZ;refine fC (by rw[ar];simp) (v:=.slice (if m=l then ad else ad.map (·.add (l*av.size))) (h-l) (m-l)) (w':=w) ?_ ⟨_,_,_,_,⟨β,bE.put (x:=.val (.slice (if m=l then ad else ad.map (·.add (l*av.size))) (h-l) (m-l))) aM ao rfl⟩,k⟩;have ex:=b1 aM.ah ab;have ax:=b1 aM.ah dx;have aS:=b1 aM.ah dU;have b5:=b1 aM.ah gb;simp only[execOp,ar,Instr.sliceAt,Instr.slice,Instr.sliceBounds,Instr.sliceBound,ex,bo,run_underlying hu,bd,(aA _ _ he).run_sizeOf,bR,gX,qj,ax,aS,b5,iU];rw[ck ⟨by omega,by omega⟩];simp only[bR,bd,ll];rw[ck ⟨by omega,by omega⟩];simp only[bR,bd,ll];rw[ck ⟨by omega,by omega⟩];simp
def a9.LS(aA:bV X.P X.E)(ar:o.op=.slice t x none (some hi) (some mx))(ao:∀ d,o.dst=some d->d<X.n)
 (aq:X.E t=some cA) (cZ:cA.bc=.slice e) (he:X.E e=some av) {n c:Nat} (h m:Nat)
  (ab:a' F x=.val (.slice ad n c)) (dU:a' F hi=.val (.int cz (h:Nat))) (gb:a' F mx=.val (.int eZ (m:Nat)))
  (aa:h<=m) (ak:m<=c) (k:K (put o.dst (.val (.slice (if m=0 then ad else ad.map (·.add (0*av.size))) (h-0) (m-0))) F) C I M):a9 X o F C I M K:=by
 refine⟨λa w Q ⟨β,aM⟩=>?_⟩;have hu:=yd aA aq cZ;refine fC (by rw[ar];simp) (v:=.slice (if m=0 then ad else ad.map (·.add (0*av.size))) (h-0) (m-0)) (w':=w) ?_ ⟨_,_,_,_,⟨β,bE.put (x:=.val (.slice (if m=0 then ad else ad.map (·.add (0*av.size))) (h-0) (m-0))) aM ao rfl⟩,k⟩;have ex:=b1 aM.ah ab;have aS:=b1 aM.ah dU;have b5:=b1 aM.ah gb;simp only[execOp,ar,Instr.sliceAt,Instr.slice,Instr.sliceBounds,Instr.sliceBound,ex,bo,run_underlying hu,bd,(aA _ _ he).run_sizeOf,bR,gX,qj,aS,b5,iU];rw[ck ⟨by omega,by omega⟩];simp only[bR,bd,ll];rw[ck ⟨by omega,by omega⟩];simp only[bR,bd,ll]
def a9.TR(aA:bV X.P X.E)(ar:o.op=.call { callee:=.builtin .append,args:=#[s,x],argTypes:=#[t,t] })(ao:∀ d,o.dst=some d->d<X.n)
 (aq:X.E t=some cA) (cZ:cA.bc=.slice e) (he:X.E e=some av)
 {n c:Nat} (an:a' F s=.val (.slice (some ⟨g,0,none⟩) n c)) (aB:cur.length=c*av.size)
  {ad:Addr} {m:Nat} (ab:a' F x=.val (.slice (some ad) m c')) (aF:cx I M ad (m*av.size) news) (U:eP news=true) (my:n+m<=c)
  (pre post:List aC) (aZ:M=pre++⟨g,.cells cur.toArray e (0,0)⟩::post)
  (k:K (put o.dst (.val (.slice (some ⟨g,0,none⟩) (n+m) c)) F) C I (pre++⟨g,.cells (bt cur (n*av.size) news).toArray e (0,0)⟩::post)):a9 X o F C I M K:=by
 refine⟨λa w Q ⟨β,aM⟩=>?_⟩;have hu:=yd aA aq cZ;obtain⟨inf,z,hi,ec,gK,fD,g1⟩:=(aA _ _ he).inf;have aw:w.heap[g]?=some (.cells cur.toArray e (0,0)):=aM.holds.m ⟨g,.cells cur.toArray e (0,0)⟩ (by rw[aZ];simp);have au:news.length=m*av.size:=by obtain⟨_,_,_,_,_,_,h⟩:=aF;exact h
 have fy:n*av.size+news.length<=cur.length:=by rw[au,aB,<-h9];exact jX _ my
 have g3:=run_storeCells_at X.P g (n*av.size) e news 0 cur.toArray w aw (by simpa using fy) (tM U);simp only[mW]at g3;have az:(Builtin.firstCells av.size m (.slice (some ad) m c')).run X.P w=.ok news.toArray w:=by
  obtain⟨cX,cs,T,ah,gJ,af,au⟩:=aF;refine run_firstCells_some (P:=X.P) w av.size m ad m c' news au λj v ap=>?_;rw[cY _ cX,pq (gJ.heap aM.holds)];rw[<-af,hW]at ap;split at ap;·rw[l8]at ap;simpa using ap
  ·cases ap
 have es:=b1 aM.ah an;have ex:=b1 aM.ah ab;refine fC (by rw[ar];simp) (v:=.slice (some ⟨g,0,none⟩) (n+m) c) (w':=w.setRow g (bt cur (n*av.size) news).toArray) ?_ ⟨_,_,_,_,⟨β,bE.put (x:=.val (.slice (some ⟨g,0,none⟩) (n+m) c)) ?_ ao rfl⟩,k⟩
 ·have dg:(Builtin.append_ #[t,t] o.type #[.slice (some ⟨g,0,none⟩) n c,.slice (some ad) m c']).run X.P w=.ok (.slice (some ⟨g,0,none⟩) (n+m) c) (w.setRow g (bt cur (n*av.size) news).toArray):=by rw[<-ec]at az g3 |-;simp[Builtin.append_,Builtin.lenOf,run_underlying hu,sizeOf,typeInfo,hi,my,az,Addr.add_lit,g3,bt]
  unfold execOp;simp only[ar,resolve,invoke,builtin,bo,bR,bd,od,cC,lD,es,ex,dg]
 ·exact aM.qm aZ
def a9.clear(aA:bV X.P X.E)(ar:o.op=.call { callee:=.builtin .clear,args:=#[x],argTypes:=#[t] })(ao:∀ d,o.dst=some d->d<X.n)
 (aq:X.E t=some cA) (cZ:cA.bc=.slice e) (he:X.E e=some av)
 {n c:Nat} (ab:a' F x=.val (.slice (some ⟨g,off,none⟩) n c)) (aD:0<n) (fy:off+n*av.size<=cur.length)
  (pre post:List aC) (aZ:M=pre++⟨g,.cells cur.toArray e (0,0)⟩::post)
  (k:∀ vs:List Value,vs.length=n*av.size->K (put o.dst (.val (.tuple #[])) F) C I (pre++⟨g,.cells (bt cur off vs).toArray e (0,0)⟩::post)):a9 X o F C I M K:=by
 refine⟨λa w Q ⟨β,aM⟩=>?_⟩;have hu:=yd aA aq cZ;obtain⟨inf,z,hi,ec,gK,fD,g1⟩:=(aA _ _ he).inf;have aw:w.heap[g]?=some (.cells cur.toArray e (0,0)):=aM.holds.m ⟨g,.cells cur.toArray e (0,0)⟩ (by rw[aZ];simp);have mv:z.cells.size=av.size:=by have:=(aA _ _ he).len;rw[<-g1]at this;simpa using this
 have au:(Builtin.zeroCells z.cells n).toList.length=n*av.size:=by rw[qI,size_zeroCells,mv]
 have j3:∀ v∈(Builtin.zeroCells z.cells n).toList,v.oneCell'=true:=λv af=>by
  simp only[Builtin.zeroCells,Array.toList_map,dw,Array.toList_range,jY]at af;obtain⟨j,ap,rfl⟩:=af;have nZ:0<z.cells.size:=by
   rcases Nat.eq_zero_or_pos z.cells.size with h | h;·rw[h,Nat.mul_zero]at ap;omega
   ·exact h
  have a0:=Nat.mod_lt j nZ;rw[getElem!_pos z.cells _ a0];exact(aA _ _ he).one _ (by rw[<-g1];exact Array.mem_toList_iff.2 (Array.getElem_mem a0))
 have g3:=run_storeCells_at X.P g off e (Builtin.zeroCells z.cells n).toList 0 cur.toArray w aw (by rw[au];simpa using fy) j3;simp only[mW]at g3;have hzero:(zeroValue e).run X.P w=.ok z w:=by simp[zeroValue,typeInfo,hi,fD]
 have ex:=b1 aM.ah ab;refine fC (by rw[ar];simp) (v:=.tuple #[]) (w':=w.setRow g (bt cur off (Builtin.zeroCells z.cells n).toList).toArray) ?_ ⟨_,_,_,_,⟨β,bE.put (x:=.val (.tuple #[])) ?_ ao rfl⟩,k _ au⟩
 ·have dg:(Builtin.clear_ #[t] o.type #[.slice (some ⟨g,off,none⟩) n c]).run X.P w=.ok (.tuple #[]) (w.setRow g (bt cur off (Builtin.zeroCells z.cells n).toList).toArray):=by obtain⟨n,rfl⟩:∃ q,n=q+1:=⟨n-1,by omega⟩;simp[Builtin.clear_,run_underlying hu,hzero,g3,bt]
  unfold execOp;simp only[ar,resolve,invoke,builtin,bo,bR,bd,od,cC,lD,ex,dg]
 ·exact aM.qm aZ
end
section
variable{X:bO}{G:GT}{pr:g5}{D:a4}{m m':aU}{F:Fr}{ah:aO ai}{C:b6}{I:aG}{M:List aC}{K:dE}{o:Oper}{v:ai}
def TS(aA:bV X.P X.E)(ao:∀ d,o.dst=some d->d<X.n){args:Array Operand}(ar:o.op=.call { callee:=.builtin .unsafeString,args:=args,argTypes:=c6 })(h:EC (b' X G pr) m c6.toList (iN ah args.toList)=some (v,m'))
  (H:fr D F ah args.toList) (hm:bP (b' X G pr) D m I M) (k:lh X G pr D m I M v m' o.dst F C K):a9 X o F C I M K:=by
 unfold EC at h;split at h
 ·rename_i nd it aq au;cases h;obtain⟨op,on,hN,U,aa⟩:=AS au;obtain⟨lX,ax,aI⟩:=H.a' (x:=op) (by rw[hN];simp) U;obtain⟨jN,aS,aQ⟩:=H.a' (x:=on) (by rw[hN];simp) aa;have tk:args=#[op,on]:=by apply dT;simpa using hN
  have tl:c6=#[nd,it]:=by apply dT;simpa using aq
  have AT:lX=.pointer none:=by simpa only[ay]using aI
  subst AT;rw[aQ.int]at aS;refine a9.HK (by rw[ar,tk,tl]) ao ax aS (k D _ M a4.jr ?_ hm);simp only[ay];rfl
 ·rename_i nd it id n aq au;split at h
  ·rename_i sa l1 sz e cs T c3 TT aw;obtain⟨av,he,er⟩:=bD h;obtain⟨ag,eH⟩:=dR er;simp only[bs]at ag;obtain⟨op,on,hN,U,aa⟩:=AS au;obtain⟨lX,ax,aI⟩:=H.a' (x:=op) (by rw[hN];simp) U;obtain⟨jN,aS,aQ⟩:=H.a' (x:=on) (by rw[hN];simp) aa;have tk:args=#[op,on]:=by apply dT;simpa using hN
   have tl:c6=#[nd,it]:=by apply dT;simpa using aq
   rw[aQ.int]at aS;obtain⟨a,aN,rfl⟩:=aI.ptr;have j2:=hm.fc _ _ _ aw aN;obtain⟨arr,p',aZ,bW,aB,aj,gb⟩:=j2;have ya:=cb ag.2.1;subst ya;unfold oT at eH;simp only[aw]at eH;cases Fi:Nat.ble (Nat.add 0 n) c3 with
   |false=>rw[Fi]at eH;cases eH| true=>
   rw[Fi]at eH;simp only[bn]at eH;have kT:0+n<=c3:=bk Fi;obtain⟨l,fu,fF,eE⟩:=aO.vh cs n 0 _ _ eH;obtain⟨bz,wQ,qO⟩:=bD eE;obtain⟨Ch,LU⟩:=dR qO;obtain⟨t1,aL,be⟩:=aO.jn (none:Option dm) m.t id;rw[aL]at LU;cases LU;have xd:(arr.toList.take n).length=n:=by rw[kW,qI];omega
   have TU:a6 D l (arr.toList.take n):=a6.ER (by rw[xd,fu]) λi v hi=>by
    have fA:i<n:=by rw[<-fu];exact(gf.1 hi).1
    obtain⟨x,bG,eU⟩:=aB i v (by omega) (by have:=fF i fA;rw[dd]at this;rw[this,hi]);rw[p',dd]at bG;exact⟨x,by rw[hW,ck fA];simpa using bG,eU⟩
   have e5:=E' wQ TU;have mu:bz.length=n:=by have:=congrArg List.length e5;rw[xd]at this;simpa using this.symm
   obtain⟨pre,post,cX⟩:=nL aZ;have iw:M.Perm (⟨a.b,.cells arr T (0,0)⟩::(pre++post)):=by rw[cX];exact q2
   have h3:arr.toList.take bz.length=bz.map λb=>Value.int .u8 b.toNat:=by rw[mu];exact e5
   have aD:bz≠[]:=λb2=>by subst b2;have:0<n:=bk ag.2.2;simp at mu;omega
   have cq:a' F op=.val (.pointer (some ⟨a.b,0,none⟩)):=by rw[ax,p']
   have kJ:a' F on=.val (.int .i64 bz.length):=by rw[aS,mu];rfl
   refine a9.Cg aA (by rw[ar,tk,tl]) ao TT rfl he (cb ag.1) cq kJ aD (by rw[mu];exact bk Ch) iw h3 ?_;have hJ:∀ i cW,t1.get i=some cW->i≠id/\m.t.get i=some cW:=λi cW hi=>by
    rcases be i cW hi with⟨_,eH⟩ | eH;·cases eH
    ·exact eH
   refine k D _ _ a4.jr (by simp only[ay]) ⟨λi cW b hi nh=>?_,λi eb cW rE b ff hi cr=>hm.inj i eb cW rE b ff (hJ i cW hi).2 (hJ eb rE cr).2,hm.fJ,hm.kt⟩;refine(hm.fc i cW b (hJ i cW hi).2 nh).mono (a4.le_refl D) λq aR aF=>?_;rcases cU.1 (iw.mem_iff.1 aR)with rfl | aR;·exact((hJ i cW hi).1 (hm.inj _ _ _ _ _ _ (hJ i cW hi).2 aw nh aN aF.symm)).elim
   ·exact aR
  ·cases h
 ·cases h
def TV(aA:bV X.P X.E)(ao:∀ d,o.dst=some d->d<X.n){v:ai}(ar:o.op=.slice t x (some lo) (some hi) (some mx))(h:Eu X.E t (bS ah x) (bS ah lo) (bS ah hi) (bS ah mx)=some v)
  (H:fr D F ah o.op.operands.toList) (hm:bP (b' X G pr) D m I M) (k:∀ x,dn D x v->K (put o.dst x F) C I M):a9 X o F C I M K:=by
 unfold Eu at h;split at h
 ·rename_i sz eW z e id off n c cH l cz aP eZ dq aq ab dx dU gb;obtain⟨av,he,er⟩:=bD h;obtain⟨ag,eH⟩:=dR er;simp only[bs]at ag;obtain⟨cR,bU,dZ,jj⟩:=ag;cases eH;have cR:=bk cR;have bU:=bk bU;have dZ:=bk dZ;have jj:l+1<=dq:=bk jj;obtain⟨kk,cv,rF⟩:=H.a' (x:=x) (by rw[ar];simp[Op.operands]) ab;obtain⟨lX,ax,aI⟩:=H.a' (x:=lo) (by rw[ar];simp[Op.operands]) dx;obtain⟨jN,aS,aQ⟩:=H.a' (x:=hi) (by rw[ar];simp[Op.operands]) dU;obtain⟨oG,b5,bG⟩:=H.a' (x:=mx) (by rw[ar];simp[Op.operands]) gb;rw[aI.int]at ax;rw[aQ.int]at aS;rw[bG.int]at b5;simp only[ay]at rF;obtain⟨a,aN,rfl⟩:=rF;refine a9.slice3 aA ar ao aq rfl he l aP dq cv ax aS b5 cR bU dZ (k _ (.val ?_));simp only[ay];refine⟨a,aN,?_⟩;rw[cd (by omega),gX,cY _ rfl];simp only[rf,uM,uN,kD]
 ·cases h
def TW(aA:bV X.P X.E)(ao:∀ d,o.dst=some d->d<X.n){v:ai}(ar:o.op=.slice t x none (some hi) (some mx))(h:Et X.E t (bS ah x) (bS ah hi) (bS ah mx)=some v)
  (H:fr D F ah o.op.operands.toList) (hm:bP (b' X G pr) D m I M) (k:∀ x,dn D x v->K (put o.dst x F) C I M):a9 X o F C I M K:=by
 unfold Et at h;split at h
 ·rename_i sz eW z e id off n c cz aP eZ dq aq ab dU gb;obtain⟨av,he,er⟩:=bD h;obtain⟨ag,eH⟩:=dR er;simp only[bs]at ag;obtain⟨bU,dZ,jj⟩:=ag;cases eH;have bU:=bk bU;have dZ:=bk dZ;have jj:0+1<=dq:=bk jj;obtain⟨kk,cv,rF⟩:=H.a' (x:=x) (by rw[ar];simp[Op.operands]) ab;obtain⟨jN,aS,aQ⟩:=H.a' (x:=hi) (by rw[ar];simp[Op.operands]) dU;obtain⟨oG,b5,bG⟩:=H.a' (x:=mx) (by rw[ar];simp[Op.operands]) gb;rw[aQ.int]at aS;rw[bG.int]at b5;simp only[ay]at rF;obtain⟨a,aN,rfl⟩:=rF;refine a9.LS aA ar ao aq rfl he aP dq cv aS b5 bU dZ (k _ (.val ?_));simp only[ay];refine⟨a,aN,?_⟩;rw[cd (by omega),gX,cY _ rfl];simp
 ·rename_i sz eW z e id off aS n cz aP eZ dq aq ab dU gb;obtain⟨av,he,er⟩:=bD h;obtain⟨ag,eH⟩:=dR er;simp only[bs]at ag;obtain⟨bU,dZ,jj⟩:=ag;cases eH;have bU:=bk bU;have dZ:=bk dZ;have jj:0+1<=dq:=bk jj;obtain⟨kk,cv,rF⟩:=H.a' (x:=x) (by rw[ar];simp[Op.operands]) ab;obtain⟨jN,aS,aQ⟩:=H.a' (x:=hi) (by rw[ar];simp[Op.operands]) dU;obtain⟨oG,b5,bG⟩:=H.a' (x:=mx) (by rw[ar];simp[Op.operands]) gb;rw[aQ.int]at aS;rw[bG.int]at b5;simp only[ay]at rF;obtain⟨a,aN,hle,rfl⟩:=rF;refine a9.LS aA ar ao aq rfl he aP dq cv aS b5 bU (by omega) (k _ (.val ?_));simp only[ay];refine⟨a,aN,?_⟩;rw[cd (by omega),gX,cY _ rfl];simp
 ·cases h
def TX(ao:∀ d,o.dst=some d->d<X.n){v:ai}(ar:o.op=.unOp .xor t x)(h:Ev (bS ah x)=some v)(H:fr D F ah o.op.operands.toList)(k:∀ x,dn D x v->K (put o.dst x F) C I M):dW X o F C I M K:=by
 unfold Ev at h;split at h
 ·rename_i n ab;cases h;obtain⟨u,e,hu⟩:=H.a' (x:=x) (by rw[ar];simp[Op.operands]) ab;rw[hu.int]at e;have q:a9 X o F C I M K:=a9.wP ar ao e (k _ (.val (by simp only[ay])));obtain⟨dst,tp,ty,pos,after,guard⟩:=o;simp only at ar;subst ar;exact q
 ·cases h
def TY(ar:o.op=.slice t x none (some hi) (some mx))(k:a9 X o F C I M K):dW X o F C I M K:=by
 obtain⟨dst,tp,ty,pos,after,guard⟩:=o;simp only at ar;subst ar;simp only[dW,bw];split<;>first | exact k | (rename_i e;cases e)
def TZ(ar:o.op=.slice t x (some lo) (some hi) (some mx))(k:a9 X o F C I M K):dW X o F C I M K:=by
 obtain⟨dst,tp,ty,pos,after,guard⟩:=o;simp only at ar;subst ar;simp only[dW,bw];split<;>first | exact k | (rename_i e;cases e)
def LV:Op->Bool
 | .makeMap .. | .lookup .. | .mapUpdate .. | .insert ..=>true| .call { callee:=.builtin .append,.. }=>true| .call { callee:=.builtin .copy,.. }=>true| .call { callee:=.builtin .unsafeString,.. }=>true| _=>false
def rG(ar:o.op=op)(h:LV op=true)(k:a9 X o F C I M K):dW X o F C I M K:=by
 obtain⟨dst,tp,ty,pos,after,guard⟩:=o;simp only at ar;subst ar;unfold LV at h;split at h<;>first | exact k | cases h
def T0(aA:bV X.P X.E)(ao:∀ d,o.dst=some d->d<X.n)(h:ED (b' X G pr) m o ah=some (v,m'))(H:fr D F ah o.op.operands.toList)(hm:bP (b' X G pr) D m I M)(k:lh X G pr D m I M v m' o.dst F C K):dW X o F C I M K:=by
 unfold ED at h;split at h
 ·rename_i t x y ar;exact Tp ar h H hm k
 ·rename_i t ar;exact rG ar rfl (LG aA ao ar h (by simp) hm k)
 ·rename_i t x ar;split at h
  ·rename_i dq n ab;refine rG ar rfl (LG aA ao ar h (λy aE=>?_) hm k);cases aE;obtain⟨u,ax,aI⟩:=H.a' (x:=x) (by rw[ar];simp[Op.operands]) ab;rw[aI.int]at ax;exact⟨_,_,ax⟩
  ·cases h
 ·rename_i t x y ok ar;exact rG ar rfl (Ts aA ao ar h H hm k)
 ·rename_i t x y z ar;exact rG ar rfl (LI aA (.inl ar) h H hm k)
 ·rename_i t x y z ar;exact rG ar rfl (LI aA (.inr ar) h H hm k)
 ·rename_i s d x ar;have Fj:=Tv aA ao ar h H hm k;obtain⟨dst,tp,ty,pos,after,guard⟩:=o;simp only at ar;subst ar;have lT:∃ a b z,X.E d=some ⟨a,b,z,.string⟩:=by
   unfold Ax at h;split at h;·exact⟨_,_,_,by assumption⟩
   ·exact⟨_,_,_,by assumption⟩
   ·exact⟨_,_,_,by assumption⟩
   ·cases h
  obtain⟨a,b,z,lT⟩:=lT;simp only[dW,bw,lT];split;·rename_i e _;cases e
  ·exact Fj
 ·rename_i b args c6 ar;have Fk:fr D F ah args.toList:=by rw[ar]at H;simpa[Op.operands,Call.operands]using H
  unfold K8 at h;split at h;·exact rG ar rfl (TQ aA ao ar h Fk hm k)
  ·exact rG ar rfl (Tw aA ao ar h Fk hm k)
  ·exact rG ar rfl (TS aA ao ar h Fk hm k)
  ·cases h
 ·cases h
end
def ye(Y:dJ)(call:ai->List ai->aU->Option (ai×aU)):Prop:=∀ f l m v m',call f l m=some (v,m')->∀ (D:a4) (I:aG) (M:List aC) (u:Value) (us:List Value),ay D f u->a6 D l us->bP Y D m I M -> (∃ g bB cs,u=.func (.func g) bB cs/\Spec Y.P g (bB.toList++us++cs.toList) I M λr I' M'=>∃ aW,D.ext aW m.n/\ay aW v r/\bP Y aW m' I' M') \/ ∃ q,u=.func (.yield q) #[] #[]/\wC Y.P q us I M λr I' M'=>∃ aW,D.ext aW m.n/\ay aW v r/\bP Y aW m' I' M'
def nN(dst:Option Nat)(v:ai)(D:a4)(F cy:Fr):Prop:=(∀ d,dst=some d->dn D (cy d) v)/\∀ (D:a4) t mR,dst≠some t->dn D (F t) mR->dn D (cy t) mR
def nN.put{v:ai}{x:b0}(F:Fr)(h:dn D x v):nN dst v D F (put dst x F):=by
 constructor
 ·rintro d rfl;simpa[Go.V.put,dK]using h
 ·intro D t mR br h;cases dst with
  |none=>exact h| some d=>have:t≠d:=λe=>br (by rw[e]);simp only[Go.V.put,dK,eQ this,bj];exact h
def rA.v(h:rA dst u F cy){v:ai}(af:ay D v u):nN dst v D F cy:=⟨λd ao=>by rw[h.1 d ao];exact .val af,h.2⟩
section
variable{X:bO}{G:GT}{pr:g5}{D:a4}{m m':aU}{F:Fr}{ah:aO ai}{C:b6}{I:aG}{M:List aC}{K:dE}{o:Oper}{v:ai}
def AU(X:bO)(G:GT)(pr:g5)(o:Oper)(ah:aO ai)(m:aU)(v:ai)(m':aU):Prop:=m.n<=m'.n/\∀ (D:a4) (F:Fr) (C:b6) (I:aG) (M:List aC) (K:dE),fr D F ah o.op.operands.toList->bP (b' X G pr) D m I M -> (∀ aW cy C' I' M',D.ext aW m.n->nN o.dst v aW F cy->bP (b' X G pr) aW m' I' M'->K cy C' I' M')->dW X o F C I M K
def T1(ar:o.op=op)(aj:gU X.E op=0)(h:bw X op (bZ F) C I M (λx=>K (put o.dst x F) C I M) (a9 X o F C I M K)):dW X o F C I M K:=by
 obtain⟨dst,tp,ty,pos,after,guard⟩:=o;simp only at ar;subst ar;cases tp with
 |call c=>
  obtain⟨callee,args,c6⟩:=c;cases callee with
  |value f=>simp[gU]at aj| invoke r n=>exact h| builtin b=>exact h
 |alloc t=>simp[gU]at aj| box t x=>simp[gU]at aj| store t x y=>simp[gU]at aj| buildSlice t l ps=>simp[gU]at aj| makeSlice t l c=>simp[gU]at aj| _=>exact h
def LW(aA:bV X.P X.E)(ao:∀ d,o.dst=some d->d<X.n){v:ai}(aj:gU X.E o.op=0)(h:nH X.P X.E G m.t o.op ah=some v)(H:fr D F ah o.op.operands.toList)(hm:bP (b' X G pr) D m I M)
  (k:∀ x,dn D x v->K (put o.dst x F) C I M):dW X o F C I M K:=by
 unfold nH at h;split at h
 ·rename_i t x ar;exact TX ao ar h H k
 ·rename_i t x lo hi mx ar;exact TZ ar (TV aA ao ar h H hm k)
 ·rename_i t x hi mx ar;exact TY ar (TW aA ao ar h H hm k)
 ·exact T1 rfl aj (Tb aA h H hm k)
def Fl{K:aO ai->Option R}{r:R}(h:jS dst ah v K=some r):∃ bL,K bL=some r/\(dst=none->bL=ah)/\∀ d,dst=some d->∀ t w,bL.get t=some w->(t=d/\w=v)\/(t≠d/\ah.get t=some w):=by
 unfold jS at h;cases dst with
 |none=>exact⟨ah,h,λ_=>rfl,λd ao=>by cases ao⟩
 |some d=>
  have aP:(Ew v λv=>ah.iu (some v) d K)=some r:=h;rw[SH]at aP;obtain⟨bL,U,aa⟩:=aO.jn (some v) ah d;rw[U]at aP;refine⟨bL,aP,(λe=>by cases e),λyf ao t w hw=>?_⟩;cases ao;rcases aa t w hw with⟨ax,aS⟩ | ⟨ax,aS⟩;·exact .inl ⟨ax,(jo aS).symm⟩
  ·exact .inr ⟨ax,aS⟩
def LX(aA:bV X.P X.E)(gi:∀ d,d<X.n->X.eX.contains d=true)(ao:∀ d,o.dst=some d->d<X.n)(hF:ye (b' X G pr) call){K:aO ai->aU->Option R}{r:R}
  (h:rp (b' X G pr) call o ah m K=some r):∃ v m' bL,AU X G pr o ah m v m'/\(jS o.dst ah v λah=>K ah m')=some r/\K bL m'=some r/\(o.dst=none->bL=ah)/\∀ d,o.dst=some d->∀ t w,bL.get t=some w->(t=d/\w=v)\/(t≠d/\ah.get t=some w):=by
 have fin:∀ {v:ai} {m':aU},AU X G pr o ah m v m'->(jS o.dst ah v λah=>K ah m')=some r->∃ v m' bL,AU X G pr o ah m v m'/\(jS o.dst ah v λah=>K ah m')=some r/\K bL m'=some r/\(o.dst=none->bL=ah)/\∀ d,o.dst=some d->∀ t w,bL.get t=some w->(t=d/\w=v)\/(t≠d/\ah.get t=some w):=fun {v m'} aB aK=>by obtain⟨bL,U,aa,ak⟩:=Fl aK;exact⟨v,m',bL,aB,aK,U,aa,ak⟩
 unfold rp at h;split at h
 ·
  rename_i f args c6 ar;unfold K9 at h;obtain⟨T2,az,h⟩:=bD h;obtain⟨l,au,h⟩:=bD h;obtain⟨⟨v,m'⟩,aB,h⟩:=bD h;obtain⟨aF,h⟩:=dR h;refine fin ⟨bk aF,λD F C I M K l3 hm aj=>?_⟩ h;rw[ar]at l3;obtain⟨u,ax,aI⟩:=l3.a' (x:=f) (by simp[Op.operands,Call.operands]) az;obtain⟨us,aS,aQ⟩:=l3.hv (l:=args.toList) (by intro y aE;simp[Op.operands,Call.operands];exact .inr (by simpa using aE)) au;obtain⟨dst,tp,ty,pos,after,guard⟩:=o;simp only at ar;subst ar;rcases hF _ _ _ _ _ aB D I M u us aI aQ hm with⟨g,bB,cs,rfl,an⟩ | ⟨q,rfl,an⟩
  ·simp only[dW,ax,aS];exact aY.whole _ an λr I' M' a7 ab=>by obtain⟨aW,U,aa,ak⟩:=ab;exact aj aW _ C I' M' U (.put F (.val aa)) ak
  ·simp only[dW,ax,aS];refine a9.yield rfl ao ax aS ⟨M,[],_,by simp,an,λr I' M' a7 ab=>?_⟩;obtain⟨aW,U,aa,ak⟩:=ab;rw[hd];exact aj aW _ C I' M' U (.put F (.val aa)) ak
 ·rename_i op ed;unfold Lc at h;split at h
  ·rename_i sy;unfold La at h;obtain⟨v,af,h⟩:=bD h;refine fin ⟨cK _,λD F C I M K l3 hm aj=>?_⟩ h;exact LW aA ao sy af l3 hm λx ab=>aj D _ C I M a4.jr (.put F ab) hm
  ·unfold K' at h;obtain⟨d,dN,h⟩:=bD h;obtain⟨⟨l,T,c,mk⟩,aN,h⟩:=bD h;obtain⟨m2,aa,aF,ak⟩:=E5 (Y:=b' X G pr) h;refine fin (v:=mk m.n) (m':=m2) ⟨by omega,λD F C I M K l3 hm aj=>?_⟩ (by rw[dN];exact aa);refine Lx aA gi ao aN (by rw[dN];rfl) l3 λb vs u cy C' a7 az e5 hlen aB hu Fm=>?_;have aL:=ak (vs:=vs) [] (b:=b) (c:=c) hm az e5 (by simpa using hlen) aB;rw[hd]at aL;exact aj _ cy C' I _ a4.vm (Fm.v (hu _ _ (a4.lg _ _ _))) aL
  ·unfold Lb at h;obtain⟨⟨v,m'⟩,ab,h⟩:=bD h;obtain⟨aF,h⟩:=dR h;refine fin ⟨bk aF,λD F C I M K l3 hm aj=>?_⟩ h;exact T0 aA ao ab l3 hm λaW u M' U aa ak=>aj aW _ C I M' U (.put F (.val aa)) ak
end
def gW(X:bO)(G:GT)(pr:g5)(D0:a4)(n0:Nat)(ah:aO ai)(m:aU)(a:Act)(w:World):Prop:=
 ∃ D F C I M,Rel X a w F C I M/\ku D F ah/\bP (b' X G pr) D m I M/\D0.ext D n0/\n0<=m.n
section
variable{X:bO}{G:GT}{pr:g5}{D0:a4}{n0:Nat}{m m':aU}{ah bL:aO ai}{a:Act}{w:World}
def a4.LY{n:Nat}(h:D.ext aW n)(aP:aW.ext AQ jR)(aF:n<=jR):D.ext AQ n:=λi hi=>by rw[aP i (by omega),h i hi]
def T3{ops:Array Oper}{o:Oper}(h:nJ ops.toList o ah=some b)(bM:∀ t,cI β (F t) (a.tmps.getD t undef))(po:ku D F ah):Region.wanted o (yielded ops a.tmps)=b:=by
 unfold nJ at h;split at h
 ·rename_i aw;cases h;simp[Region.wanted,aw]
 ·rename_i j c aw;split at h
  ·cases h
  ·rename_i d ap;have iB:(ops[j]?).bind (·.dst)=some d:=by rw[rv]at ap;simpa using ap
   have aE:=vZ iB a.tmps;split at h
   ·rename_i q aR;cases h;have an:=po _ _ aR;have af:a.tmps.getD d undef=.bool q:=by
     have U:=bM d;rcases an with⟨u,e,hu⟩ | ⟨c4,b2,e⟩;·rw[e]at U;rw[U,hu.bool]
     ·cases b2;rw[e]at U;exact U
    simp[Region.wanted,aw,aE,tR af]
   ·rename_i l aR;cases h;have an:=po _ _ aR;obtain⟨u,e,hu⟩:=an.oZ (by simp);obtain⟨vs,_,rfl⟩:=hu.ET;have U:=bM d;rw[e]at U;have r':yielded ops a.tmps j=none:=by
     rw[aE];cases jw:a.tmps[d]? with
     |none=>rfl| some v=>simp only[cI,jt,jw,hs]at U;subst U;rfl
    simp[Region.wanted,aw,r']
   ·cases h
def LZ{o:Oper}{K:aO ai->Option R}{r:R}(h:te o ah K=some r):∃ bL,K bL=some r/\(o.dst=none->bL=ah)/\∀ d,o.dst=some d->∀ t w,bL.get t=some w->(t=d/\w=.t [])\/(t≠d/\ah.get t=some w):=by
 unfold te at h;cases ao:o.dst with
 |none=>rw[ao]at h;exact⟨ah,h,λ_=>rfl,λd e=>by cases e⟩
 |some d=>
  rw[ao]at h;obtain⟨bL,U,aa⟩:=aO.jn (some (ai.t [])) ah d;simp only[U]at h;refine⟨bL,h,(λe=>by cases e),λyf e7 t w hw=>?_⟩;cases e7;rcases aa t w hw with⟨ax,aS⟩ | ⟨ax,aS⟩;·exact .inl ⟨ax,(jo aS).symm⟩
  ·exact .inr ⟨ax,aS⟩
def ku.step{v:ai}(h:ku D F ah)(hle:D.le aW)(aK:nN dst v aW F cy)(U:dst=none->bL=ah)(aa:∀ d,dst=some d->∀ t w,bL.get t=some w->(t=d/\w=v)\/(t≠d/\ah.get t=some w)):ku aW cy bL:=λt u aq=>by
 cases ao:dst with
 |none=>rw[U ao]at aq;exact aK.2 aW t u (by rw[ao];simp) ((h t u aq).mono hle)
 |some d=>
  rcases aa d ao t u aq with⟨rfl,rfl⟩ | ⟨br,aw⟩;·exact aK.1 _ ao
  ·exact aK.2 aW t u (by rw[ao];intro e;cases e;exact br rfl) ((h t u aw).mono hle)
def Fo(aA:bV X.P X.E)(gi:∀ d,d<X.n->X.eX.contains d=true){call:ai->List ai->aU->Option (ai×aU)}(hF:ye (b' X G pr) call)(ops:Array Oper)(Q:Exit->Act->World->Prop)(m3:∀ a w,gW X G pr D0 n0 bL m' a w->Q .normal a w):∀ (l:List Oper) (k:Nat),(∀ j,l[j]?=ops[k+j]?)->(∀ o∈l,∀ d,o.dst=some d->d<X.n)->∀ {ah m a w},vc (b' X G pr) call ops.toList l ah m=some (bL,m') -> gW X G pr D0 n0 ah m a w->wpOpsIn (dV X) 0 X.P ops Q (List.range' k l.length) a w
 |[],k,_,_,ah,m,a,w,h,an=>by have aP:some (ah,m)=some (bL,m'):=h;cases aP;exact m3 _ _ an
 |o::rest,k,au,ao,ah,m,a,w,h,an=>by
  have aD:ops[k]?=some o:=by simpa using(au 0).symm
  have kL:∀ j,rest[j]?=ops[k+1+j]?:=λj=>by have:=au (j+1);simpa[kD,yM 1 j]using this
  have e7:∀ o∈rest,∀ d,o.dst=some d->d<X.n:=λo ar=>ao o (by simp[ar]);have qu:=ao o (by simp);have aP:bg (nJ ops.toList o ah) none (λw=>bf w (rp (b' X G pr) call o ah m λah m=>vc (b' X G pr) call ops.toList rest ah m) (te o ah λah=>vc (b' X G pr) call ops.toList rest ah m))=some (bL,m'):=h;obtain⟨b,ag,aP⟩:=bD aP;obtain⟨D,F,C,I,M,⟨β,aM⟩,bM,hm,ab,aF⟩:=an;have hw:=T3 ag aM.ah bM;simp only[c8,List.range'_succ,wpOpsIn,aD];rw[hw];cases b with
  |true=>have aa:rp (b' X G pr) call o ah m (λah m=>vc (b' X G pr) call ops.toList rest ah m)=some (bL,m'):=aP;obtain⟨v,b3,c0,⟨Fp,yg⟩,-,ak,aI,aQ⟩:=LX aA gi qu hF aa;simp only[kE];refine l9 (λbl w'=>?_) (tQ aA qu ⟨β,aM⟩ (yg D F C I M (λcy C' I' M'=>∃ aW,D.ext aW m.n/\ku aW cy c0/\bP (b' X G pr) aW b3 I' M') (bM.op _) hm λaW cy C' I' M' ax aS b5=>⟨aW,ax,bM.step (hm.le ax) aS aI aQ,b5⟩));rintro⟨cy,C',I',M',eR,aW,ax,aS,b5⟩;exact Fo aA gi hF ops Q m3 rest (k+1) kL e7 ak ⟨aW,cy,C',I',M',eR,aS,b5,a4.LY ab ax aF,iQ aF Fp⟩
  |false=>have aa:te o ah (λah=>vc (b' X G pr) call ops.toList rest ah m)=some (bL,m'):=aP;obtain⟨c0,ak,aI,aQ⟩:=LZ aa;simp only[gG,g9];refine⟨λ_ _=>trivial,Fo aA gi hF ops Q m3 rest (k+1) kL e7 ak ⟨D,put o.dst (.val undef) F,C,I,M,⟨β,aM.put (x:=.val undef) qu rfl⟩,bM.step (a4.le_refl D) (.put F (.val .undef)) aI aQ,hm,ab,aF⟩⟩
end
def T4(a0:∀ j e,hC ops j e->e<j)(J:(Nat->Prop)->Act->World->Prop)(step:∀ (L:Nat->Prop) a w q o,J L a w->sf ops L->(∀ i,L i->i<ops.length)->ops[q]?=some o->¬ L q->(∀ e,hC ops q e->L e) -> (Region.wanted o (yielded ops.toArray a.tmps)=true->o.wpIn (dV X) 0 X.P a w (J λj=>L j\/j=q) Q)/\(Region.wanted o (yielded ops.toArray a.tmps)=false->J (λj=>L j\/j=q) (a.put o.dst undef) w))
  (fin:∀ a w,J (λi=>i<ops.length) a w->Q .normal a w):∀ (ca:Nat) (listed:Array Bool) (a:Act) (w:World),listed.size=ops.length->todo ops listed<=ca->sf ops (λi=>listed.getD i false=true) ->
   J (λi=>listed.getD i false=true) a w->wpAnyIn (dV X) 0 X.P .any ops.toArray Q ca listed a w:=by
 have c3:∀ (listed:Array Bool) (i:Nat),listed.getD i false=true->i<listed.size:=λlisted i h=>by refine vD λaF=>?_;simp[Array.getD,aF]at h
 have full:∀ (listed:Array Bool) a w,listed.size=ops.length->Region.ready .any ops.toArray listed=[]->J (λi=>listed.getD i false=true) a w->Q .normal a w:=λlisted a w bW h6 fv=>by
  have all:∀ i,i<ops.length->listed.getD i false=true:=λi=>by
   induction i using Nat.strongRecOn with
   |ind i aX=>
    intro hi;refine vD λaF=>?_;have ar:ops[i]?=some ops[i]:=h8 hi;have:i∈Region.ready .any ops.toArray listed:=(mem_ready bW).2 ⟨_,ar,aF,λe he=>by
     have U:=a0 i e he;exact aX e U (by omega)⟩
    rw[h6]at this;cases this
  have e:(λi=>listed.getD i false=true)=λi=>i<ops.length:=by funext i;simp only[eq_iff_iff];exact⟨λh=>by have:=c3 listed i h;omega,all i⟩
  rw[e]at fv;exact fin a w fv
 intro ca
 induction ca with
 |zero=>
  intro listed a w bW az dM fv;have h6:Region.ready .any ops.toArray listed=[]:=by
   cases al:Region.ready .any ops.toArray listed with
   |nil=>rfl| cons i l=>obtain⟨o,ar,aF,_⟩:=(mem_ready bW).1 (by rw[al];simp:i∈Region.ready .any ops.toArray listed);have:=zh (gf.1 ar).1 bW aF;omega
  exact⟨h6,full listed a w bW h6 fv⟩
 |succ ca aX=>
  intro listed a w bW az dM fv;refine⟨λh6=>full listed a w bW h6 fv,λq aR=>?_⟩;obtain⟨o,ar,aF,ao⟩:=(mem_ready bW).1 aR;have cJ:=(gf.1 ar).1;have g2:=Ht (listed:=listed) (i:=q) (by omega);have next:∀ bl w',J (λj=>listed.getD j false=true\/j=q) bl w'->wpAnyIn (dV X) 0 X.P .any ops.toArray Q ca (listed.setIfInBounds q true) bl w':=λbl w' h=>by
   refine aX _ bl w' (by simpa using bW) ?_ ?_ (by rw[g2];exact h);·have:=zh cJ bW aF;omega
   ·rw[g2];rintro j e (ap | rfl) he
    ·exact .inl (dM j e ap he)
    ·exact .inl (ao e he)
  obtain⟨s1,s2⟩:=step _ a w q o fv dM (λi hi=>by have:=c3 listed i hi;omega) ar aF ao;have wm:ops.toArray[q]?=some o:=by simpa using ar
  unfold wpOpIn;simp only[wm];cases hw:Region.wanted o (yielded ops.toArray a.tmps)with
  |true=>
   simp only[kE];exact l9 next (s1 hw)
  |false=>simp only[gG,g9];exact⟨λ_ _=>trivial,next _ _ (s2 hw)⟩
def L0{S:List aU}{lo hi:Nat}{p:aU->Bool}{m:aU}(h:vf S lo hi p=true)(U:lo<=j)(aa:j<=hi)(ap:S[j]?=some m):p m=true:=by unfold vf at h;refine eO.1 h m ?_;refine rS (i:=j-lo) ?_;rw[hW,ck (by omega),l8,show lo+(j-lo)=j by omega];exact ap
def filter_le{p:α->Bool}:∀ {l:List α},(∀ q e,l[q]?=some e->p e=true->q<j)->(l.filter p).length<=j:=by
 intro l h;have ax:l.filter p=(l.take j).filter p:=by
  conv=>lhs;rw[<-qH j l]
  rw[E4];have:(l.drop j).filter p=[]:=by rw[List.filter_eq_nil_iff];intro a aN aK;obtain⟨q,aR⟩:=z7 aN;rw[l8]at aR;have:=h _ _ aR aK;omega
  rw[this,hd]
 rw[ax];refine iQ (vE _ _) ?_;simp;omega
def le_filter{p:α->Bool}{l:List α}(ap:j<=l.length)(h:∀ q e,q<j->l[q]?=some e->p e=true):j<=(l.filter p).length:=by
 have ax:(l.take j).filter p=l.take j:=by
  rw[List.filter_eq_self];intro a aN;obtain⟨q,aR⟩:=z7 aN;rw[hW]at aR;split at aR;·exact h q a (by assumption) aR
  ·cases aR
 have aS:l.filter p=(l.take j).filter p++(l.drop j).filter p:=by
  conv=>lhs;rw[<-qH j l]
  rw[E4]
 rw[aS,ax,cP,kW];omega
mutual
def L1{D:a4}:∀ {x y:ai} {u:Value},ve x y=true->ay D x u->ay D y u
 |x,y,u,h,ab=>by
  cases x<;>cases y<;>simp only[ve,gG,bs]at h
  case b.b=>
   have:=eq_of_beq h;subst this;exact ab
  case i.i=>
   obtain⟨U,aa⟩:=h;have:=IntKind.tN U;subst this;rw[vi,e3]at aa;subst aa;exact ab
  case s.s=>
   rw[vj,e3]at h;subst h;exact ab
  case pn.pn=>exact ab
  case p.p=>
   obtain⟨U,aa⟩:=h;have:=cb U;subst this;have:=cb aa;subst this;exact ab
  case g.g=>
   obtain⟨U,aa⟩:=h;have:=cb U;subst this;have:=cb aa;subst this;exact ab
  case sn.sn=>exact ab
  case sl.sl=>
   obtain⟨U,aa,ak,aL⟩:=h;have:=cb U;subst this;have:=cb aa;subst this;have:=cb ak;subst this;have:=cb aL;subst this;exact ab
  case sx.sx=>
   obtain⟨U,aa,ak,aL⟩:=h;have:=cb U;subst this;have:=cb aa;subst this;have:=cb ak;subst this;have:=cb aL;subst this;exact ab
  case gs.gs=>
   obtain⟨U,aa,ak,aL⟩:=h;have:=cb U;subst this;have:=cb aa;subst this;have:=cb ak;subst this;have:=cb aL;subst this;exact ab
  case mn.mn=>exact ab
  case m.m=>have:=cb h;subst this;exact ab
  case f.f=>
   obtain⟨U,aa,ak⟩:=h;have:=cb U;subst this;simp only[ay]at ab |-;obtain⟨vs,ws,aI,aQ,bG⟩:=ab;exact⟨vs,ws,vo aa aI,vo ak aQ,bG⟩
  case y.y=>have:=cb h;subst this;exact ab
  case fn.fn=>exact ab
  case ni.ni=>exact ab
  case t.t=>
   simp only[ay]at ab |-;obtain⟨vs,aI,aQ⟩:=ab;exact⟨vs,vo h aI,aQ⟩
  case a.a=>
   simp only[ay]at ab |-;obtain⟨vs,aI,aQ⟩:=ab;exact⟨vs,vo h aI,aQ⟩
def vo{D:a4}:∀ {x y:List ai} {us:List Value},oX x y=true->a6 D x us->a6 D y us
 |[],[],us,h,ab=>ab| [],_::_,us,h,ab=>by simp[oX]at h
 |_::_,[],us,h,ab=>by simp[oX]at h
 |x::l,y::m,us,h,ab=>by simp only[oX,bs]at h;obtain⟨u,us,aI,aQ,rfl⟩:=ab.gv;exact .cons (L1 h.1 aI) (vo h.2 aQ)
end
def yh(dst:Option Nat)(ah:aO ai)(v:ai)(bL:aO ai):Prop:=(dst=none->bL=ah)/\∀ d,dst=some d->∀ t w,bL.get t=some w->(t=d/\w=v)\/(t≠d/\ah.get t=some w)
def AV(m m':aU)(l:List ai)(T:Nat):Prop:=m'.n=m.n+1/\(∀ id e,m'.t.get id=some e->id=m.n\/m.t.get id=some e)
def qa(m m':aU):Prop:=m.n<=m'.n/\∀ id e,id<m.n->m'.t.get id=some e->m.t.get id=some e
def qa.refl(m:aU):qa m m:=⟨cK _,λ_ _ _ h=>h⟩
def qa.trans{a b c:aU}(h:qa a b)(k:qa b c):qa a c:=⟨iQ h.1 k.1,λid e hi he=>h.2 id e hi (k.2 id e (yH hi h.1) he)⟩
def AV.grow{m m':aU}{l:List ai}{T:Nat}(h:AV m m' l T):qa m m':=⟨by rw[h.1];omega,λid e hi he=>by
 rcases h.2 id e he with U | U
 ·omega
 ·exact U⟩
def T5{m:aU}{l:List ai}{T:Nat}{K:Nat->aU->Option R}{r:R}(h:nI m l T K=some r):∃ m',K m.n m'=some r/\AV m m' l T:=by unfold nI at h;obtain⟨cs,U,aa⟩:=aO.p6 l (.nil:aO ai) 0;rw[U]at h;obtain⟨cD,ak,aL⟩:=x5 h;exact⟨_,aL,rfl,λid e hi=>(ak id e hi).imp (λq=>q.1) λq=>q.2⟩
def bP.grow{m m':aU}(h:bP Y D m I M)(aw:qa m m'):bP Y D m' I M where
 fc id e a U aa:=h.fc id e a (aw.2 id e (h.fJ _ _ aa) U) aa
 inj id e2 e b2 a bl U ib aa ia ag:=h.inj id e2 e b2 a bl (aw.2 id e (h.fJ _ _ aa) U) (aw.2 e2 b2 (h.fJ _ _ ia) ib) aa ia ag
 fJ id a aa:=yH (h.fJ _ _ aa) aw.1
 kt:=h.kt
inductive g7(X:bO)(G:GT)(pr:g5)(ops:List Oper):List (Nat×Nat)->aO ai->aU->List (Nat×ai)->aO ai->aU->List aU->List kr->Prop
 |nil{ah m}:g7 X G pr ops [] ah m [] ah m [m] []| q {i o rest ah m v bL vs dS dC S A} (ar:ops[i]?=some o) (aj:gU X.E o.op=0) (hw:nJ ops o ah=some true) (af:nH X.P X.E G m.t o.op ah=some v) (aK:yh o.dst ah v bL) (t:g7 X G pr ops rest bL m vs dS dC S A) : g7 X G pr ops ((i,0)::rest) ah m ((i,v)::vs) dS dC S (bif j4 o.op then .load i o ah v::A else A)| a {i o d rest ah m m' l T c mk bL vs dS dC S A} (ar:ops[i]?=some o) (aj:gU X.E o.op=1) (hw:nJ ops o ah=some true) (ao:o.dst=some d) (af:td X.E o ah=some (l,T,c,mk)) (aF:AV m m' l T) (aK:yh o.dst ah (mk m.n) bL) (t:g7 X G pr ops rest bL m' vs dS dC S A) : g7 X G pr ops ((i,1)::rest) ah m ((i,mk m.n)::vs) dS dC S (.made i m.n l T::A)| e {i o rest ah m m' v bL vs dS dC S A} (ar:ops[i]?=some o) (aj:gU X.E o.op=2) (hw:nJ ops o ah=some true) (aB:AU X G pr o ah m v m') (aK:yh o.dst ah v bL) (t:g7 X G pr ops rest bL m' vs dS dC S A) : g7 X G pr ops ((i,2)::rest) ah m ((i,v)::vs) dS dC (m::S) A| skip {i k o rest ah m bL vs dS dC S A} (ar:ops[i]?=some o) (aj:gU X.E o.op=k) (hw:nJ ops o ah=some false) (aK:yh o.dst ah (.t []) bL) (t:g7 X G pr ops rest bL m vs dS dC S A) : g7 X G pr ops ((i,k)::rest) ah m ((i,.t [])::vs) dS dC (bif Nat.beq k 2 then m::S else S) A
section
variable{X:bO}{G:GT}{pr:g5}{ops:List Oper}
def yi(aA:bV X.P X.E)(gi:∀ d,d<X.n->X.eX.contains d=true)(eC:∀ o∈ops,∀ d,o.dst=some d->d<X.n){call:ai->List ai->aU->Option (ai×aU)}(hF:ye (b' X G pr) call):∀ (row:List (Nat×Nat)) {ah:aO ai} {m:aU} {gB:List aU} {iP:List kr} {dS:aO ai} {dC:aU} {gT:List aU} {ix:List kr},jm (b' X G pr) call ops row ah m gB iP=some (dS,dC,gT,ix)->∃ vs S A,g7 X G pr ops row ah m vs dS dC S A/\gT=S.reverse++gB/\(∀ h∈A,h∈ix)/\∀ h∈iP,h∈ix
 |[],ah,m,gB,iP,dS,dC,gT,ix,h=>by simp only[jm,hr,Prod.mk.injEq]at h;obtain⟨rfl,rfl,rfl,rfl⟩:=h;exact⟨[],[m],[],.nil,by simp,by simp,λ_ h=>h⟩
 |(i,k)::rest,ah,m,gB,iP,dS,dC,gT,ix,h=>by
  simp only[jm]at h;obtain⟨o,ar,h⟩:=bD h;obtain⟨w,hw,h⟩:=bD h;obtain⟨aj,h⟩:=dR h;rw[rv]at ar;have oO:gU X.E o.op=k:=cb aj;have qu:=eC o (rS ar);cases w with
  |false=>
   have aa:te o ah (λah=>jm (b' X G pr) call ops rest ah m (bf (Nat.beq k 2) (m::gB) gB) iP)=some (dS,dC,gT,ix):=h;obtain⟨c0,ak,aI,aQ⟩:=LZ aa;obtain⟨vs,S,A,aq,lz,fU,nO⟩:=yi aA gi eC hF rest ak;refine⟨_,_,_,.skip ar oO hw ⟨aI,aQ⟩ aq,?_,fU,nO⟩;rw[lz];cases Nat.beq k 2<;>simp[bf]
  |true=>
   have U:bf (Nat.beq k 0) (bg (nH X.P X.E G m.t o.op ah) none λv=>jS o.dst ah v λbL=>jm (b' X G pr) call ops rest bL m gB (bf (j4 o.op) (.load i o ah v::iP) iP)) (bf (Nat.beq k 1) (bg o.dst none λd=>bg (td X.E o ah) none λr=>nI m r.1 r.2.1 λid m=>jS (some d) ah (r.2.2.2 id) λah=>jm (b' X G pr) call ops rest ah m gB (.made i id r.1 r.2.1::iP)) (rp (b' X G pr) call o ah m λah m'=>jm (b' X G pr) call ops rest ah m' (m::gB) iP))=some (dS,dC,gT,ix):=h;by_cases xp:k=0
   ·subst xp;have aa:(bg (nH X.P X.E G m.t o.op ah) none λv=>jS o.dst ah v λbL=>jm (b' X G pr) call ops rest bL m gB (bf (j4 o.op) (.load i o ah v::iP) iP))=some (dS,dC,gT,ix):=U;obtain⟨v,af,aa⟩:=bD aa;obtain⟨c0,ak,aI,aQ⟩:=Fl aa;obtain⟨vs,S,A,aq,lz,fU,nO⟩:=yi aA gi eC hF rest ak;refine⟨_,_,_,.q ar oO hw af ⟨aI,aQ⟩ aq,lz,λy aE=>?_,λy aE=>nO y ?_⟩
    ·cases au:j4 o.op with
     |false=>rw[au]at aE;exact fU y aE
     |true=>
      rw[au]at aE;rcases cU.1 aE with rfl | aE;·refine nO _ ?_;rw[au];simp[bf]
      ·exact fU y aE
    ·cases j4 o.op with
     |false=>exact aE| true=>exact iO _ aE
   rw[eQ xp]at U;by_cases cH:k=1
   ·subst cH;have aa:(bg o.dst none λd=>bg (td X.E o ah) none λr=>nI m r.1 r.2.1 λid m=>jS (some d) ah (r.2.2.2 id) λah=>jm (b' X G pr) call ops rest ah m gB (.made i id r.1 r.2.1::iP))=some (dS,dC,gT,ix):=U;obtain⟨d,ao,aa⟩:=bD aa;obtain⟨⟨l,T,c,mk⟩,aN,aa⟩:=bD aa;obtain⟨m2,ak,aF⟩:=T5 aa;have iL:jS o.dst ah (mk m.n) (λah=>jm (b' X G pr) call ops rest ah m2 gB (.made i m.n l T::iP))=some (dS,dC,gT,ix):=by rw[ao];exact ak
    obtain⟨c0,aL,aI,aQ⟩:=Fl iL;obtain⟨vs,S,A,aq,lz,fU,nO⟩:=yi aA gi eC hF rest aL;refine⟨_,_,_,.a ar oO hw ao aN aF ⟨aI,aQ⟩ aq,lz,λy aE=>?_,λy aE=>nO y (iO _ aE)⟩;rcases cU.1 aE with rfl | aE;·exact nO _ (by simp)
    ·exact fU y aE
   ·rw[eQ cH]at U;have aa:rp (b' X G pr) call o ah m (λah m'=>jm (b' X G pr) call ops rest ah m' (m::gB) iP)=some (dS,dC,gT,ix):=U;obtain⟨v,b3,c0,yg,-,ak,aI,aQ⟩:=LX aA gi qu hF aa;obtain⟨vs,S,A,aq,lz,fU,nO⟩:=yi aA gi eC hF rest ak;have pK:k=2:=by
     have:gU X.E o.op<=2:=by
      unfold gU;split<;>first | omega | (split<;>first | omega | (split<;>omega))
     rw[oO]at this;omega
    subst pK;exact⟨_,_,_,.e ar oO hw yg ⟨aI,aQ⟩ aq,by rw[lz];simp,fU,nO⟩
def g7.head{ah dS:aO ai}{m dC:aU}{vs:List (Nat×ai)}{S:List aU}{A:List kr}(h:g7 X G pr ops row ah m vs dS dC S A):∃ m2 gT,S=m2::gT/\qa m m2:=by
 induction h with
 |nil=>exact⟨_,_,rfl,.refl _⟩| q _ _ _ _ _ _ aX=>exact aX| a _ _ _ _ _ aF _ _ aX=>obtain⟨m2,gT,U,aa⟩:=aX;exact⟨m2,gT,U,aF.grow.trans aa⟩
 |e _ _ _ _ _ _ _=>exact⟨_,_,rfl,.refl _⟩
 | @skip i k o rest ah m bL vs dS dC S A _ _ _ _ _ aX=>
  cases aj:Nat.beq k 2 with
  |true=>exact⟨_,_,rfl,.refl _⟩| false=>simpa using aX
def g7.AW{ah dS:aO ai}{m dC:aU}{vs:List (Nat×ai)}{S:List aU}{A:List kr}(h:g7 X G pr ops row ah m vs dS dC S A):m.n<=dC.n/\∀ i c l T,.made i c l T∈A->m.n<=c/\i∈row.map (·.1):=by
 induction h with
 |nil=>exact⟨cK _,λ_ _ _ _ h=>by cases h⟩
 | @q i o rest ah m v bL vs dS dC S A _ _ _ _ _ _ aX=>
  refine⟨aX.1,λeb c l T hm=>?_⟩;have lB:.made eb c l T∈A:=by
   cases au:j4 o.op with
   |false=>rw[au]at hm;exact hm
   |true=>
    rw[au]at hm;rcases cU.1 hm with e | hm;·cases e
    ·exact hm
  exact⟨(aX.2 eb c l T lB).1,iO _ (aX.2 eb c l T lB).2⟩
 |a _ _ _ _ _ aF _ _ aX=>
  refine⟨iQ aF.grow.1 aX.1,λeb c l T hm=>?_⟩;rcases cU.1 hm with e | hm;·cases e;exact⟨cK _,by simp⟩
  ·exact⟨iQ aF.grow.1 (aX.2 eb c l T hm).1,iO _ (aX.2 eb c l T hm).2⟩
 |e _ _ _ aB _ _ aX=>exact⟨iQ aB.1 aX.1,λeb c l T hm=>⟨iQ aB.1 (aX.2 eb c l T hm).1,iO _ (aX.2 eb c l T hm).2⟩⟩| skip _ _ _ _ _ aX=>exact⟨aX.1,λeb c l T hm=>⟨(aX.2 eb c l T hm).1,iO _ (aX.2 eb c l T hm).2⟩⟩
def g7.split:∀ (pre:List (Nat×Nat)) {rest:List (Nat×Nat)} {ah dS:aO ai} {m dC:aU} {vs:List (Nat×ai)} {S:List aU} {A:List kr},g7 X G pr ops (pre++rest) ah m vs dS dC S A -> ∃ o3 qb c0 b3 nP qc o4,vs=o3++qb/\o3.map (·.1)=pre.map (·.1)/\S=nP++qc/\nP.length=(pre.filter λr=>Nat.beq r.2 2).length/\g7 X G pr ops rest c0 b3 qb dS dC qc o4/\(∀ h∈o4,h∈A)/\m.n<=b3.n /\ (∀ t w,c0.get t=some w->(∃ i,(i,w)∈o3/\fj ops i=some t)\/((∀ i∈pre.map (·.1),fj ops i≠some t)/\ah.get t=some w)) /\ (∀ i c l T,.made i c l T∈A->.made i c l T∈o4\/c<b3.n)
 |[],rest,ah,dS,m,dC,vs,S,A,h=>⟨[],vs,ah,m,[],S,A,rfl,rfl,rfl,rfl,h,λ_ h=>h,cK _,λt w hw=>.inr ⟨by simp,hw⟩,λ_ _ _ _ h=>.inl h⟩
 |(i,k)::pre,rest,ah,dS,m,dC,vs,S,A,h=>by
  have fin:∀ {o:Oper} {bL:aO ai} {m':aU} {v:ai} {me:List (Nat×ai)} {gT S:List aU} {ix A:List kr},ops[i]?=some o->yh o.dst ah v bL->m.n<=m'.n->g7 X G pr ops (pre++rest) bL m' me dS dC gT ix -> (S=if Nat.beq k 2 then m::gT else gT)->(∀ h∈ix,h∈A)->(∀ i c l T,.made i c l T∈A->.made i c l T∈ix\/c<m'.n) ->
    ∃ o3 qb c0 b3 nP qc o4,(i,v)::me=o3++qb/\o3.map (·.1)=((i,k)::pre).map (·.1)/\S=nP++qc/\nP.length=(((i,k)::pre).filter λr=>Nat.beq r.2 2).length/\g7 X G pr ops rest c0 b3 qb dS dC qc o4/\(∀ h∈o4,h∈A)/\m.n<=b3.n /\ (∀ t w,c0.get t=some w->(∃ i,(i,w)∈o3/\fj ops i=some t)\/((∀ eb∈((i,k)::pre).map (·.1),fj ops eb≠some t)/\ah.get t=some w)) /\
     (∀ i c l T,.made i c l T∈A->.made i c l T∈o4\/c<b3.n):=by
   intro o bL m' v me gT S ix A ar aK Fp aq lz fU T6;obtain⟨o3,qb,c0,b3,nP,qc,o4,ax,aS,b5,ea,mD,AX,AY,Fq,AZ⟩:=g7.split pre aq;refine⟨(i,v)::o3,qb,c0,b3,(if Nat.beq k 2 then m::nP else nP),qc,o4,by rw[ax];rfl,by simp[aS],?_,?_,mD,λh b7=>fU h (AX h b7),iQ Fp AY,λt w hw=>?_,λi c l T hm=>?_⟩
   ·rw[lz,b5];split<;>simp
   ·simp only[yJ];split<;>simp[ea]
   ·rcases Fq t w hw with⟨eb,U,aa⟩ | ⟨U,aa⟩
    ·exact .inl ⟨eb,iO _ U,aa⟩
    ·have j6:fj ops i=o.dst:=by simp[fj,ar]
     cases ao:o.dst with
     |none=>
      rw[aK.1 ao]at aa;refine .inr ⟨λeb cr=>?_,aa⟩;rcases cU.1 cr with e | cr;·rw[show eb=i from e,j6,ao];simp
      ·exact U eb cr
     |some d=>
      rcases aK.2 d ao t w aa with⟨rfl,rfl⟩ | ⟨br,ak⟩;·exact .inl ⟨i,by simp,by rw[j6,ao]⟩
      ·refine .inr ⟨λeb cr=>?_,ak⟩;rcases cU.1 cr with e | cr
       ·rw[show eb=i from e,j6,ao];exact λe=>br (by cases e;rfl)
       ·exact U eb cr
   ·rcases T6 i c l T hm with U | U
    ·exact AZ i c l T U
    ·exact .inr (yH U AY)
  cases h with
  |q ar aj hw af aK t=>
   rename_i o v bL me ix;refine fin ar aK (cK _) t (by simp) (λh b7=>?_) λi c l T hm=>?_
   ·cases j4 o.op with
    |false=>exact b7| true=>exact iO _ b7
   ·cases au:j4 o.op with
    |false=>rw[au]at hm;exact .inl hm
    |true=>
     rw[au]at hm;rcases cU.1 hm with e | hm;·cases e
     ·exact .inl hm
  |a ar aj hw ao af aF aK t=>
   refine fin ar aK aF.grow.1 t (by simp) (λh b7=>iO _ b7) λi c l T hm=>?_;rcases cU.1 hm with e | hm;·cases e;exact .inr (by rw[aF.1];omega)
   ·exact .inl hm
  |e ar aj hw aB aK t=>exact fin ar aK aB.1 t (by simp) (λ_ h=>h) λ_ _ _ _ h=>.inl h
  |skip ar aj hw aK t=>exact fin ar aK (cK _) t (by cases Nat.beq k 2<;>rfl) (λ_ h=>h) λ_ _ _ _ h=>.inl h
end
section
variable{ops:List Oper}
def T7{i k:Nat}{o:Oper}(ar:ops[i]?=some o)(h:we o k=true):∀ e,hC ops i e->k.testBit e=true:=by rintro e⟨o',h5,kS,kP,ag,rfl⟩;rw[ar]at kS;cases kS;have:=eO.1 h h5 (by simpa using kP);rw[ag]at this;simpa using this
def A0:∀ {row:List (Nat×Nat)} {k:Nat},oW ops row k=true->∀ (pre:List (Nat×Nat)) (i c:Nat) (post:List (Nat×Nat)),row=pre++(i,c)::post -> (∃ o,ops[i]?=some o)/\k.testBit i=false/\i ∉ pre.map (·.1)/\∀ e,hC ops i e->k.testBit e=true\/e∈pre.map (·.1)
 |[],k,h,pre,i,c,post,e=>by simp at e
 |(i0,kj)::row,k,h,pre,i,c,post,e=>by
  simp only[oW,bs,ln]at h;obtain⟨U,aa⟩:=h;split at aa
  ·rename_i o ar;rw[bs]at aa;cases pre with
   |nil=>simp only[lC,sI,Prod.mk.injEq]at e;obtain⟨⟨rfl,rfl⟩,rfl⟩:=e;exact⟨⟨o,ar⟩,U,by simp,λe he=>.inl (T7 ar aa.1 e he)⟩
   |cons p pre=>
    simp only[qK,sI]at e;obtain⟨ax,aS⟩:=e;obtain⟨aI,aQ,bG,eU⟩:=A0 aa.2 pre i c post aS;have ag:∀ x,(k ||| 2^i0).testBit x=(k.testBit x||decide (x=i0)):=λx=>by rw[yK,yG];congr 1;exact decide_eq_decide.2 eq_comm
    rw[ag,mq]at aQ;refine⟨aI,aQ.1,?_,λe he=>?_⟩;·rw[<-ax];simp only[cC,cU,not_or];exact⟨by simpa using aQ.2,bG⟩
    ·rcases eU e he with h | h
     ·rw[ag,gY]at h;rcases h with h | h
      ·exact .inl h
      ·exact .inr (by rw[<-ax];simp at h;simp[h])
     ·exact .inr (by rw[cC];exact iO _ h)
  ·cases aa
def Fs:∀ {row:List (Nat×Nat)} {k:Nat},oW ops row k=true->∀ i,i<ops.length->k.testBit i=true\/i∈row.map (·.1)
 |[],k,h,i,hi=>by
  simp only[oW]at h;have:=cb h;subst this
  left
  rw[Nat.testBit_two_pow_sub_one];simpa using hi
 |(i0,kj)::row,k,h,i,hi=>by
  simp only[oW,bs,ln]at h;obtain⟨U,aa⟩:=h;split at aa
  ·rw[bs]at aa;rcases Fs aa.2 i hi with h | h
   ·rw[yK,yG,gY]at h;rcases h with h | h
    ·exact .inl h
    ·have:i0=i:=by simpa using h
     exact .inr (by simp[this])
   ·exact .inr (by rw[cC];exact iO _ h)
  ·cases aa
def T8(h:oW ops row 0=true):(row.map (·.1)).Nodup:=by
 have key:∀ {row:List (Nat×Nat)} {k:Nat},oW ops row k=true->(row.map (·.1)).Nodup:=by
  intro row
  induction row with
  |nil=>intro k _;exact tG
  |cons r row aX=>
   intro k h;obtain⟨i0,kj⟩:=r;have aP:=h;simp only[oW,bs,ln]at h;obtain⟨U,aa⟩:=h;split at aa;·rw[bs]at aa;rw[cC,kB];refine⟨λhm=>?_,aX aa.2⟩;obtain⟨⟨x,c⟩,ab,tq⟩:=dw.1 hm;obtain⟨pre,post,e⟩:=nL ab;have Ft:x=i0:=tq;subst Ft;have:=(A0 aP ((x,kj)::pre) x c post (by rw[e];rfl)).2.2.1;exact this (by simp)
   ·cases aa
 exact key h
def L2{α β:Type}:∀ {l:List (α×β)},(l.map (·.1)).Nodup->∀ {k:α} {a b:β},(k,a)∈l->(k,b)∈l->a=b
 |[],_,k,a,b,h,_=>by cases h
 |(xp,c)::l,aF,k,a,b,h,aP=>by
  rw[cC,kB]at aF;rcases cU.1 h with e | h
  ·cases e;rcases cU.1 aP with b2 | aP
   ·cases b2;rfl
   ·exact(aF.1 (dw.2 ⟨_,aP,rfl⟩)).elim
  ·rcases cU.1 aP with b2 | aP
   ·cases b2;exact(aF.1 (dw.2 ⟨_,h,rfl⟩)).elim
   ·exact L2 aF.2 h aP
end
section
variable{X:bO}{G:GT}{pr:g5}{D0:a4}{n0:Nat}{a:Act}{w:World}
def A1{o:Oper}{ah:aO ai}(h:nJ ops o ah=some b)(bM:∀ t,cI β (F t) (a.tmps.getD t undef))(H:∀ t∈looks ops o,∀ v,ah.get t=some v->dn D (F t) v) :
  Region.wanted o (yielded ops.toArray a.tmps)=b:=by
 unfold nJ at h;split at h
 ·rename_i aw;cases h;simp[Region.wanted,aw]
 ·rename_i j c aw;split at h
  ·cases h
  ·rename_i d ap;have iB:(ops[j]?).bind (·.dst)=some d:=by rw[rv]at ap;simpa using ap
   have T9:(ops.toArray[j]?).bind (·.dst)=some d:=by simpa using iB
   have aE:=vZ T9 a.tmps;have pz:d∈looks ops o:=BT aw iB;split at h
   ·rename_i q aR;cases h;have an:=H _ pz _ aR;have af:a.tmps.getD d undef=.bool q:=by
     have U:=bM d;rcases an with⟨u,e,hu⟩ | ⟨c4,b2,e⟩;·rw[e]at U;rw[U,hu.bool]
     ·cases b2;rw[e]at U;exact U
    simp[Region.wanted,aw,aE,tR af]
   ·rename_i l aR;cases h;have an:=H _ pz _ aR;obtain⟨u,e,hu⟩:=an.oZ (by simp);obtain⟨vs,_,rfl⟩:=hu.ET;have U:=bM d;rw[e]at U;have r':yielded ops.toArray a.tmps j=none:=by
     rw[aE];cases jw:a.tmps[d]? with
     |none=>rfl| some v=>simp only[cI,jt,jw,hs]at U;subst U;rfl
    simp[Region.wanted,aw,r']
   ·cases h
def T'{o:Oper}{ah:aO ai}(H:∀ t∈looks ops o,∀ v,ah.get t=some v->dn D (F t) v):fr D F ah o.op.operands.toList:=λx ab v af=>by
 cases x with
 |tmp t=>exact H t (BU (by simpa using ab)) v af| const c=>exact(show ku D F .nil from λt v h=>by cases h).op [.const c] (.const c) (by simp) v af| global g=>exact(show ku D F .nil from λt v h=>by cases h).op [.global g] (.global g) (by simp) v af| func f=>exact(show ku D F .nil from λt v h=>by cases h).op [.func f] (.func f) (by simp) v af
def Ua{m m2:aO dm}{ah:aO ai}(h:j4 op=false):nH X.P X.E G m op ah=nH X.P X.E G m2 op ah:=by
 cases op with
 |load=>simp[j4]at h| slice t x lo hi mx=>cases mx<;>cases lo<;>cases hi<;>rfl
 |unOp u=>cases u<;>rfl
 |call c=>
  obtain⟨callee,args,c6⟩:=c;cases callee<;>rfl
 |_=>rfl
def vp(X:bO)(G:GT)(pr:g5)(D0:a4)(n0:Nat)(ops:List Oper)(es:List Nat)(ah:aO ai)(vs:List (Nat×ai))(S:List aU)(A:List kr)(L:Nat->Prop)(a:Act)(w:World):Prop:=
 ∃ D F C I M j lj,Rel X a w F C I M/\(∀ q e,es[q]?=some e->(L e ↔ q<j))/\j<=es.length/\S[j]?=some lj/\bP (b' X G pr) D lj I M/\(∀ i v t,L i->(i,v)∈vs->fj ops i=some t->dn D (F t) v) /\ (∀ t v,(∀ i,L i->fj ops i≠some t)->ah.get t=some v->dn D (F t) v)/\(∀ i c l T,kr.made i c l T∈A->¬ L i->D c=none)/\D0.ext D n0
def vp.ah(bX:n6 ops){L:Nat->Prop}{q:Nat}{o:Oper}(aR:ops[q]?=some o)(kR:¬ L q){vs:List (Nat×ai)}(vq:(vs.map (·.1)).Nodup){v:ai}(af:(q,v)∈vs){ah:aO ai}(hle:D.le aW)(aK:nN o.dst v aW F cy)(fU:∀ i v t,L i->(i,v)∈vs->fj ops i=some t->dn D (F t) v)(Ub:∀ t v,(∀ i,L i->fj ops i≠some t)->ah.get t=some v->dn D (F t) v) :
  (∀ i v t,(L i\/i=q)->(i,v)∈vs->fj ops i=some t->dn aW (cy t) v)/\(∀ t v,(∀ i,(L i\/i=q)->fj ops i≠some t)->ah.get t=some v->dn aW (cy t) v):=by
 have L3:fj ops q=o.dst:=by simp[fj,aR]
 constructor
 ·rintro i u t (hi | rfl) hm ao
  ·have br:o.dst≠some t:=λe=>by obtain⟨dz,eS,j6⟩:=wj ao;exact bX.BS i q dz o t (λb2=>kR (b2 ▸ hi)) eS aR j6 e
   exact aK.2 aW t u br ((fU i u t hi hm ao).mono hle)
  ·rw[L2 vq hm af];rw[L3]at ao;exact aK.1 t ao
 ·intro t u ed aw;have br:o.dst≠some t:=λe=>ed q (.inr rfl) (by rw[L3,e]);exact aK.2 aW t u br ((Ub t u (λi hi=>ed i (.inl hi)) aw).mono hle)
end
section
variable{X:bO}{G:GT}{pr:g5}{D0:a4}{n0:Nat}{a:Act}{w:World}
def Fu{dX:List Nat}:∀ {es:List Nat},Ay dX es=true->∀ (p q:Nat) (x y:Nat),p<q->es[p]?=some x->es[q]?=some y->(dX.getD y 0).testBit x=true
 |[],_,p,q,x,y,_,ab,_=>by simp at ab
 |e::es,h,p,q,x,y,lA,ab,aE=>by
  simp only[Ay,bs]at h;cases q with
  |zero=>omega
  |succ q=>
   have qs:es[q]?=some y:=by simpa using aE
   cases p with
   |zero=>simp at ab;subst ab;exact eO.1 h.1 y (rS qs)| succ p=>exact Fu h.2 p q x y (by omega) (by simpa using ab) qs
def Uc:e∈p5 E ops ↔ e<ops.length/\tf E ops e=2:=by
 unfold p5;rw[vJ,jY];constructor
 ·rintro⟨U,aa⟩;exact⟨U,cb aa⟩
 ·rintro⟨U,aa⟩;exact⟨U,by rw[aa];rfl⟩
def L4{i:Nat}{o:Oper}(h:ops[i]?=some o):tf E ops i=gU E o.op:=by unfold tf;rw[rv,h];rfl
def dn.same{x:b0}{u v:ai}(h:dn D x u)(an:ve u v=true):dn D x v:=by
 rcases h with⟨y,rfl,h⟩ | ⟨q,rfl,rfl⟩
 ·exact .val (L1 an h)
 ·have:v=.b q:=by
   cases v<;>simp only[ve,gG]at an
   rw[eq_of_beq an]
  exact .inr ⟨q,this,rfl⟩
def Ud(aA:bV X.P X.E)(gi:∀ d,d<X.n->X.eX.contains d=true)(hF:ye (b' X G pr) call){id:Nat}{yj:Array Oper}(gb:X.P.follows .mixedOrders=true)(aF:tT X.n yj=true)
  {ah dS:aO ai} {m dC:aU} (h:EH (b' X G pr) call yj.toList ah m=some (dS,dC)) (m3:∀ a w,gW X G pr D0 n0 dS dC a w->Q .normal a w) (an:gW X G pr D0 n0 ah m a w) :
  (Code.region id yj true).wpIn (dV X) 0 X.P Q a w:=by
 refine wpIn_region_any gb ?_;generalize n4:yj.toList=ops at h;have Ue:yj=ops.toArray:=by apply dT;simpa using n4
 subst Ue;have eC:∀ o∈ops,∀ d,o.dst=some d->d<X.n:=by simpa using yX aF
 unfold EH at h;obtain⟨Fv,h⟩:=dR h;unfold Lf at Fv;simp only[bs]at Fv;obtain⟨Uf,iw,L5,L6⟩:=Fv;have bX:n6 ops:=Hl Uf;have L7:((xU X.E ops).filter λr=>Nat.beq r.2 2).map (·.1)=p5 X.E ops:=by simpa using L6
 clear L6;generalize iG:p5 X.E ops=es at *;have Fw:∀ e,e∈es ↔ e<ops.length/\tf X.E ops e=2:=λe=>by rw[<-iG];exact Uc
 generalize X':xU X.E ops=row at *;cases Fx:jm (b' X G pr) call ops row ah m [] []with
 |none=>rw[Fx]at h;cases h| some Ug=>
 obtain⟨Uh,Ui,gT,ix⟩:=Ug;rw[Fx]at h;have aP:bf (ix.all (EG (b' X G pr) es (gM ops) gT.reverse)) (some (Uh,Ui)) none=some (dS,dC):=h;clear h;obtain⟨L8,aP⟩:=dR aP;cases aP;obtain⟨vs,S,A,A2,L9,Uj,-⟩:=yi aA gi eC hF row Fx;rw[hd]at L9;subst L9;rw[List.reverse_reverse]at L8;have L':∀ y∈A,EG (b' X G pr) es (gM ops) S y=true:=λy aE=>eO.1 L8 y (Uj y aE);have sg:(row.map (·.1)).Nodup:=T8 iw;obtain⟨Ya,Yb,Yc,Yd,Ye,Yf,Yg,fx,gl,ja,fV,Uk,Yh,Ul,Um,Yi⟩:=g7.split row (rest:=[]) (by rw[hd];exact A2);have Un:(row.filter λr=>Nat.beq r.2 2).length=es.length:=by rw[<-L7,j9]
 cases Uk;rw[hd]at fx;subst fx;have vq:(vs.map (·.1)).Nodup:=by rw[gl];exact sg
 have Uo:=A2.AW;have Up:∀ (pre:List (Nat×Nat)) (rest:List (Nat×Nat)),row=pre++rest->sf ops (λi=>i∈pre.map (·.1)):=λpre rest hR j e ap he=>by
  obtain⟨⟨x,c⟩,ab,tq⟩:=dw.1 ap;have Ft:x=j:=tq;subst Ft;obtain⟨wU,wV,ax⟩:=nL ab;rcases(A0 iw wU x c (wV++rest) (by rw[hR,ax];simp)).2.2.2 e he with h | h;·simp at h
  ·show e∈pre.map (·.1);rw[ax,kC];exact c9.2 (.inl h)
 let J:=vp X G pr D0 n0 ops es ah vs S A
 have key:=T4 (X:=X) (ops:=ops) (Q:=Q) bX.lt J ?step ?fin ops.length (Array.replicate ops.length false) a { w with drawn:=w.drawn+1 } (by simp) (by unfold todo;exact iQ (vE _ _) (by simp)) ?cl ?start
 case cl=>
  intro j e ap;exfalso;by_cases hi:j<ops.length<;>simp[jt,hi]at ap
 case start=>
  obtain⟨D,F,C,I,M,⟨β,aM⟩,bM,hp,ab,mw⟩:=an;obtain⟨m2,qc,Uq,aw⟩:=A2.head;have cN:∀ i,¬ (Array.replicate ops.length false).getD i false=true:=λi=>by
   by_cases hi:i<ops.length<;>simp[jt,hi]
  refine⟨D,F,C,I,M,0,m2,⟨β,aM.world rfl⟩,λq e _=>⟨λh=>(cN e h).elim,λh=>by omega⟩,gq _,by rw[Uq];rfl,hp.grow aw,λi v t hi=>(cN i hi).elim,λt v _ aw=>bM t v aw,λi c l T k3 _=>?_,ab⟩;have:=(Uo.2 i c l T k3).1;cases yk:D c with
  |none=>rfl| some b=>have:=hp.fJ _ _ yk;omega
 case fin=>
  rintro a w⟨D,F,C,I,M,j,lj,aM,o5,ap,nQ,hp,tr,ts,l4,ab⟩;have fk:j=es.length:=by
   refine Nat.le_antisymm ap ?_;by_cases aD:es.length=0;·omega
   ·have a0:es.length-1<es.length:=by omega
    have U:=(o5 (es.length-1) es[es.length-1] (h8 a0)).1 ((Fw _).1 (et a0)).1;omega
  have Ur:lj=dC:=by rw[fk,ja,j8 (by omega),fV,Un]at nQ;simpa using nQ.symm
  subst Ur;refine m3 a w ⟨D,F,C,I,M,aM,λt v aw=>?_,hp,ab,?_⟩
  ·rcases Um t v aw with⟨i,U,aa⟩ | ⟨U,aa⟩
   ·obtain⟨dz,eS,_⟩:=wj aa;exact tr i v t (gf.1 eS).1 U aa
   ·refine ts t v (λi hi=>?_) aa;rcases Fs iw i hi with ak | ak
    ·simp at ak
    ·exact U i ak
  ·obtain⟨aW,cy,C',I',M',_,_,_,_,mw⟩:=an;exact iQ mw Ul
 case step=>
  rintro L a w q o⟨D,F,C,I,M,j,lj,⟨β,aM⟩,o5,ap,nQ,hp,tr,ts,l4,ab⟩dM Yj aR kR A3;have gr:q<ops.length:=(gf.1 aR).1;have na:=eC o (rS aR);obtain⟨⟨c4,k⟩,Us,Fy⟩:=dw.1 ((Fs iw q gr).resolve_left (by simp));have Ut:c4=q:=Fy;subst Ut;obtain⟨pre,post,cX⟩:=nL Us;obtain⟨-,-,Ma,Uu⟩:=A0 iw pre c4 k post cX;have Uv:∀ e,hC ops c4 e->e∈pre.map (·.1):=λe he=>(Uu e he).resolve_left (by simp);have Fz:=Up pre ((c4,k)::post) cX;have Mb:=A2;rw[cX]at Mb;obtain⟨o3,qb,c0,b3,nP,qc,o4,ax,aS,b5,ea,mD,AX,AY,Fq,AZ⟩:=g7.split pre Mb;have Yk:=mD.AW;have H:∀ t∈looks ops o,∀ v,c0.get t=some v->dn D (F t) v:=λt aq v af=>by
   rcases Fq t v af with⟨i,U,aa⟩ | ⟨U,aa⟩
   ·obtain⟨dz,eS,j6⟩:=wj aa;have Mc:i∈pre.map (·.1):=by rw[<-aS];exact dw.2 ⟨_,U,rfl⟩
    have br:i≠c4:=λe=>Ma (e ▸ Mc);rcases bX.ord i c4 dz o t br eS aR j6 aq with ag | ag;·exact tr i v t (ag.mem dM A3) (by rw[ax];exact c9.2 (.inl U)) aa
    ·exact(Ma (ag.mem Fz λe he=>Fz i e Mc he)).elim
   ·refine ts t v (λi hi kY=>?_) aa;obtain⟨dz,eS,j6⟩:=wj kY;have br:i≠c4:=λe=>kR (e ▸ hi);rcases bX.ord i c4 dz o t br eS aR j6 aq with ag | ag
    ·exact U i (ag.mem Fz Uv) kY
    ·exact kR (ag.mem dM λe he=>dM i e hi he)
  have l3:fr D F c0 o.op.operands.toList:=T' H;have dx:vd es (gM ops) c4<=j:=filter_le λp e aK ag=>by exact(o5 p e aK).1 ((qB ag).mem dM A3)
  have dU:j<=kq es (gM ops) c4:=le_filter ap λp e aK xB=>by
   cases ag:((gM ops).getD e 0).testBit c4 with
   |false=>rfl| true=>have Uw:L e:=(o5 p e xB).2 aK;exact(kR ((qB ag).mem dM λd ao=>dM e d Uw ao)).elim
  have Md:gU X.E o.op≠2->∀ p e,es[p]?=some e->((L e\/e=c4) ↔ p<j):=λaj p e aK=>by
   have br:e≠c4:=λhe=>aj (by
    have:=((Fw e).1 (rS aK)).2;rw[he,L4 aR]at this;exact this)
   exact⟨λb7=>(o5 p e aK).1 (b7.resolve_right br),λb7=>.inl ((o5 p e aK).2 b7)⟩
  have FA:gU X.E o.op=2->es[j]?=some c4/\j+1<=es.length/\∀ p e,es[p]?=some e->((L e\/e=c4) ↔ p<j+1):=λaj=>by
   have Fy:c4∈es:=(Fw c4).2 ⟨gr,by rw[L4 aR];exact aj⟩;obtain⟨rH,fm⟩:=z7 Fy;have Yl:=(gf.1 fm).1;have U:¬ rH<j:=λb7=>kR ((o5 rH c4 fm).2 b7);have aa:¬ j<rH:=λb7=>by
    have fk:j<es.length:=by omega
    have FB:=Fu L5 j rH es[j] c4 b7 (h8 fk) fm;have:=(o5 j es[j] (h8 fk)).1 ((qB FB).mem dM A3);omega
   have ak:rH=j:=by omega
   subst ak;refine⟨fm,by omega,λp e aK=>⟨λb7=>?_,λb7=>?_⟩⟩
   ·rcases b7 with b7 | rfl
    ·have:=(o5 p e aK).1 b7;omega
    ·refine vD λaF=>?_;have FB:=Fu L5 rH p e e (by omega) fm aK;exact kR ((qB FB).mem dM A3)
   ·by_cases m5:p<rH
    ·exact .inl ((o5 p e aK).2 m5)
    ·have:p=rH:=by omega
     subst this;rw[fm]at aK;exact .inr (jo aK).symm
  have plain:∀ {v:ai} {cy:Fr} {C':b6} {bl:Act} {w':World},(c4,v)∈vs->gU X.E o.op≠2->(∀ l T c,kr.made c4 c l T ∉ A\/True)->Rel X bl w' cy C' I M->nN o.dst v D F cy->J (λj=>L j\/j=c4) bl w':=fun {v cy C' bl w'} af aj _ n' aK=>by obtain⟨f1,f2⟩:=vp.ah bX aR kR vq af (a4.le_refl D) aK tr ts;exact⟨D,cy,C',I,M,j,lj,n',Md aj,ap,nQ,hp,f1,f2,λi c l T hm ed=>l4 i c l T hm λhi=>ed (.inl hi),ab⟩
  have yl:∀ {v:ai} {rest:List (Nat×ai)},qb=(c4,v)::rest->(c4,v)∈vs:=fun {v rest} he=>by rw[ax,he];exact c9.2 (.inr (by simp))
  have Ux:n0<=b3.n:=by obtain⟨aW,cy,C',I',M',_,_,_,_,mw⟩:=an;exact iQ mw AY
  have Me:∀ {k:Nat},k=2->row=pre++(c4,k)::post->gU X.E o.op=2->nP.length=j:=fun {k} pK Uy aj=>by
   obtain⟨FC,fk,_⟩:=FA aj;have Uz:es=(pre.filter λr=>Nat.beq r.2 2).map (·.1)++c4::((post.filter λr=>Nat.beq r.2 2).map (·.1)):=by rw[<-L7,Uy,E4,kC,yJ];subst pK;simp
   have bI:es.Nodup:=by rw[<-iG];exact List.nodup_range.sublist List.filter_sublist
   have U:es[nP.length]?=some c4:=by rw[Uz,j8 (by rw[j9,ea];exact cK _),j9,ea,Aa];rfl
   have ud:=(gf.1 U).1;exact(List.getElem?_inj ud bI).1 (by rw[U,FC])
  cases mD with
  | @q i o' rest hQ jU v bL me FD FE gB iP ar aj tt af aK t=>
   have tu:o'=o:=jo (ar.symm.trans aR);subst tu;have hw:=A1 tt aM.ah H;refine⟨λ_=>?_,λaz=>by rw[hw]at az;cases az⟩;obtain⟨u,hu,D3⟩:∃ u,nH X.P X.E G lj.t o'.op c0=some u/\∀ x,dn D x u->dn D x v:=by
    cases au:j4 o'.op with
    |false=>exact⟨v,by rw[Ua au (m2:=b3.t)];exact af,λ_ h=>h⟩
    |true=>
     have eY:kr.load c4 o' c0 v∈A:=AX _ (by rw[au];simp);have U:=L' _ eY;have aa:=L0 (show vf S (vd es (gM ops) c4) (kq es (gM ops) c4) (EE (b' X G pr) o' c0 v)=true from U) dx dU nQ;unfold EE at aa;split at aa;·rename_i u hu;exact⟨u,hu,λx ab=>ab.same aa⟩
     ·cases aa
   refine l9 (λbl w'=>?_) (tQ aA na ⟨β,aM⟩ (LW (K:=λcy C' I' M'=>I'=I/\M'=M/\nN o'.dst v D F cy) aA na aj hu l3 hp λx ab=>⟨rfl,rfl,.put F (D3 x ab)⟩));rintro⟨cy,C',I',M',eR,rfl,rfl,Fm⟩;exact plain (yl rfl) (by rw[aj];decide) (λ_ _ _=>.inr trivial) eR Fm
  | @a i o' d rest hQ jU m' l T c mk bL me FD FE gB iP ar aj tt ao af UA aK t=>
   have tu:o'=o:=jo (ar.symm.trans aR);subst tu;have hw:=A1 tt aM.ah H;refine⟨λ_=>?_,λaz=>by rw[hw]at az;cases az⟩;have eY:kr.made c4 b3.n l T∈A:=AX _ (by simp);have U:=L' _ eY;have aa:=L0 (show vf S (vd es (gM ops) c4) (kq es (gM ops) c4) (EF b3.n l T)=true from U) dx dU nQ;unfold EF at aa;rw[bs]at aa;obtain⟨UB,aa⟩:=aa;have UC:b3.n<lj.n:=bk UB;split at aa
   ·rename_i cs m1 c3 j2;simp only[bs]at aa;obtain⟨bJ,rB,aa⟩:=aa;have vS:=cb bJ;subst vS;have LN:=cb rB;subst LN;split at aa
    ·rename_i bY kL;obtain⟨uZ,fu,fF,lR⟩:=aO.vh cs l.length 0 _ _ kL;have uu:uZ=bY:=jo lR;subst uu;have yk:D b3.n=none:=l4 c4 b3.n l m1 eY kR;refine l9 (λbl w'=>?_) (tQ aA na ⟨β,aM⟩ (Lx (K:=λcy C' I' M'=>∃ b us u,I'=I/\M'=⟨b,.cells us.toArray m1 (0,0)⟩::M/\I b=none/\(∀ x∈M,x.num≠b)/\a6 D l us/\(∀ i,X.E m1=some i->us.length=c*i.size)/\c<=maxLen /\ (∀ (aW:a4) id,aW id=some ⟨b,0,c⟩->ay aW (mk id) u)/\rA o'.dst u F cy) aA gi na af (by rw[ao];rfl) l3 λb us u cy C' aI aQ bG eU nj zU FF=>⟨b,us,u,rfl,rfl,aI,aQ,bG,eU,nj,zU,FF⟩));rintro⟨cy,C',I',M',eR,b,us,u,rfl,rfl,aI,aQ,bG,eU,nj,zU,FF⟩;have hle:D.le (D.set b3.n ⟨b,0,c⟩):=a4.rz _ yk;have A4:nN o'.dst (mk b3.n) (D.set b3.n ⟨b,0,c⟩) F cy:=FF.v (zU _ _ (a4.lg _ _ _));obtain⟨f1,f2⟩:=vp.ah bX aR kR vq (yl rfl) hle A4 tr ts;have je:=vo aa bG;have g2:∀ id,id≠b3.n->(D.set b3.n ⟨b,0,c⟩) id=D id:=λid g6=>by unfold a4.set;rw[cd g6]
     have yc:∀ id e ff,lj.t.get id=some e->D id=some ff->ff.b≠b:=λid e ff hi ft to=>by obtain⟨x,o2,vr⟩:=hp.bF hi ft;exact aQ x o2 (vr.trans to)
     refine⟨D.set b3.n ⟨b,0,c⟩,cy,C',I',_,j,lj,eR,Md (by rw[aj];decide),ap,nQ,?_,f1,f2,?_,λi hi=>?_⟩
     ·refine⟨λid e ff hi ft=>?_,λid e2 e b2 cR bU hi cr U aa to=>?_,λid ff ft=>?_,hp.kt⟩
      ·by_cases g6:id=b3.n
       ·subst g6;rw[a4.lg]at ft;cases ft;rw[j2]at hi;cases hi;refine .cells us.toArray rfl (by simp) (by simp[bG.len]) (λi v hi af=>?_) (λi hi=>by simpa using eU i hi) nj;have hz:uZ[i]?=some v:=by have:=fF i hi;rw[dd,af]at this;exact this.symm
        obtain⟨x,o2,vr⟩:=je.get hz;exact⟨x,by simpa using o2,vr.mono hle⟩
       ·rw[g2 id g6]at ft;exact(hp.fc id e ff hi ft).mono hle λx ab _=>iO _ ab
      ·by_cases g6:id=b3.n
       ·by_cases ym:e2=b3.n
        ·rw[g6,ym]
        ·rw[g2 e2 ym]at aa;rw[g6,a4.lg]at U;cases U;exact(yc e2 b2 bU cr aa to.symm).elim
       ·rw[g2 id g6]at U;by_cases ym:e2=b3.n
        ·rw[ym,a4.lg]at aa;cases aa;exact(yc id e cR hi U to).elim
        ·rw[g2 e2 ym]at aa;exact hp.inj id e2 e b2 cR bU hi cr U aa to
      ·by_cases g6:id=b3.n
       ·rw[g6];exact UC
       ·rw[g2 id g6]at ft;exact hp.fJ _ _ ft
     ·intro i c' bY sM k3 ed;have UD:c'≠b3.n:=λe=>by
       rcases AZ i c' bY sM k3 with h | h
       ·rcases cU.1 h with h | h
        ·cases h;exact ed (.inr rfl)
        ·have:=(t.AW.2 i c' bY sM h).1;have:=UA.1;omega
       ·omega
      rw[g2 c' UD];exact l4 i c' bY sM k3 λhi=>ed (.inl hi)
     ·rw[g2 i (by omega)];exact ab i hi
    ·cases aa
   ·cases aa
  | @e i o' rest hQ jU m' v bL me FD FE gB iP ar aj tt yg aK t=>
   have tu:o'=o:=jo (ar.symm.trans aR);subst tu;have hw:=A1 tt aM.ah H;refine⟨λ_=>?_,λaz=>by rw[hw]at az;cases az⟩;obtain⟨FC,fk,FG⟩:=FA aj;have yn:=Me rfl cX aj;have FH:lj=b3:=by rw[b5,j8 (by omega),yn,Aa]at nQ;simpa using nQ.symm
   subst FH;obtain⟨m2,UE,FI,FJ⟩:=t.head;refine l9 (λbl w'=>?_) (tQ aA na ⟨β,aM⟩ (yg.2 D F C I M (λcy C' I' M'=>∃ aW,D.ext aW lj.n/\nN o'.dst v aW F cy/\bP (b' X G pr) aW m' I' M') l3 hp λaW cy C' I' M' aI aQ bG=>⟨aW,aI,aQ,bG⟩));rintro⟨cy,C',I',M',eR,aW,aI,aQ,bG⟩;have hle:=hp.le aI;obtain⟨f1,f2⟩:=vp.ah bX aR kR vq (yl rfl) hle aQ tr ts;refine⟨aW,cy,C',I',M',j+1,m2,eR,FG,fk,?_,bG.grow FJ,f1,f2,λi c l T k3 ed=>?_,a4.LY ab aI Ux⟩;·rw[b5,j8 (by omega),yn,show j+1-j=0+1 by omega,yE,FI];rfl
   ·rcases AZ i c l T k3 with h | h
    ·have:=(t.AW.2 i c l T h).1;cases yk:aW c with
     |none=>rfl| some b=>have:=bG.fJ _ _ yk;omega
    ·rw[aI c h];exact l4 i c l T k3 λhi=>ed (.inl hi)
  | @skip i cG o' rest hQ jU bL me FD FE gB iP ar aj tt aK t=>
   have tu:o'=o:=jo (ar.symm.trans aR);subst tu;have hw:=A1 tt aM.ah H;refine⟨λaz=>(by rw[hw]at az;cases az),λ_=>?_⟩;have n':Rel X (a.put o'.dst undef) w (put o'.dst (.val undef) F) C I M:=⟨β,aM.put (x:=.val undef) na rfl⟩;have A4:nN o'.dst (.t []) D F (put o'.dst (.val undef) F):=.put F (.val .undef);by_cases pK:k=2
   ·subst pK;obtain⟨FC,fk,FG⟩:=FA aj;have yn:=Me rfl cX aj;have FH:lj=b3:=by rw[b5,j8 (by omega),yn,Aa]at nQ;simpa using nQ.symm
    subst FH;obtain⟨m2,UE,FI,FJ⟩:=t.head;obtain⟨f1,f2⟩:=vp.ah bX aR kR vq (yl rfl) (a4.le_refl D) A4 tr ts;refine⟨D,_,C,I,M,j+1,m2,n',FG,fk,?_,hp.grow FJ,f1,f2,λi c l T k3 ed=>l4 i c l T k3 λhi=>ed (.inl hi),ab⟩;rw[b5,j8 (by omega),yn,show j+1-j=0+1 by omega];show(lj::gB)[0+1]?=some m2;rw[yE,FI];rfl
   ·exact plain (yl rfl) (by rw[aj];exact pK) (λ_ _ _=>.inr trivial) n' A4
 simpa using key
end
def tv{n:Nat}:∀ {c:Code},eN n c=true->codeOk n c=true
 | .seq x y,h=>by simp only[eN,codeOk,bs]at h |-;exact⟨tv h.1,tv h.2⟩
 | .block _ c,h=>by simp only[eN,codeOk]at h |-;exact tv h
 | .cond _ x y,h=>by simp only[eN,codeOk,bs]at h |-;exact⟨tv h.1,tv h.2⟩
 | .loop c,h=>by simp only[eN,codeOk]at h |-;exact tv h
 | .region _ ops _,h=>h| .scope c,h=>rfl| .rangeFunc ..,h=>rfl| .skip,h | .exit _,h | .label _,h | .goto _,h | .ret,h | .refuse _,h=>rfl
def FK{n:Nat}:∀ {c:Code} {l:Nat} {r:Code},eN n c=true->findLabel c l=some r->eN n r=true
 | .seq x y,l,r,h,au=>by
  simp only[eN,bs]at h;simp only[findLabel]at au;split at au;·rename_i rest al;cases au;simp only[eN,bs];exact⟨FK h.1 al,h.2⟩
  ·exact FK h.2 au
 | .label bY,l,r,h,au=>by
  simp only[findLabel]at au;split at au;·cases au;rfl
  ·cases au
 | .skip,_,_,_,au | .exit _,_,_,_,au | .goto _,_,_,_,au | .ret,_,_,_,au | .refuse _,_,_,_,au | .block _ _,_,_,_,au | .cond _ _ _,_,_,_,au | .loop _,_,_,_,au | .scope _,_,_,_,au | .region _ _ _,_,_,_,au | .rangeFunc _ _ _ _,_,_,_,au=>by simp[findLabel]at au
def o6(P:Program):Prop:=∀ (g:Nat) (fn:Func) (c:Code),P.funcs[g]?=some fn->fn.body=some c->eN fn.ntmps c=true/\(fn.name == "runtime.NumGoroutine")=false
def UF(P:Program):Bool:=P.funcs.toList.all λfn=>match fn.body with
 |some c=>eN fn.ntmps c && !(fn.name == "runtime.NumGoroutine")
 |none=>true
def UG(h:UF P=true):o6 P:=λg fn c az ag=>by have U:=eO.1 h fn (by rw[<-Array.mem_def];exact Array.mem_of_getElem? az);simp only[ag,bs,ln]at U;exact U
def qd(Y:dJ):Prop:=∀ g vs m v m',Y.pr g vs m=some (v,m')->∀ (D:a4) (I:aG) (M:List aC) (us:List Value),a6 D vs us->bP Y D m I M->Spec Y.P g us I M λr I' M'=>∃ aW,D.ext aW m.n/\ay aW v r/\bP Y aW m' I' M'
def rI:m4->Exit
 | .normal=>.normal| .exit id=>.exit id| .goto l=>.goto l| .ret=>.ret
def fK(Y:dJ)(n B:Nat)(aD:World)(cg:aG)(bA:List Nat)(ro:Option Nat):bO:=⟨Y.P,Y.E,List.range n,n,B,aD,cg,bA,ro⟩
def fK.eX{Y:dJ}{n B:Nat}{aD:World}{cg:aG}{bA:List Nat}{ro:Option Nat}:∀ d,d<(fK Y n B aD cg bA ro).n->(fK Y n B aD cg bA ro).eX.contains d=true:=λd ao=>by have e7:d<n:=ao;show(List.range n).contains d=true;simpa using e7
def tw(Y:dJ)(f:Nat):Prop:=∀ fb n c ah m ex bL m',gD Y f fb n c ah m=some (ex,bL,m')->eN n c=true->∀ B aD cg bA ro D0 n0 a w,(fb=true->ro=none)->gW (fK Y n B aD cg bA ro) Y.G Y.pr D0 n0 ah m a w -> c.wpIn (dV (fK Y n B aD cg bA ro)) 0 Y.P (λe a w=>e=rI ex/\gW (fK Y n B aD cg bA ro) Y.G Y.pr D0 n0 bL m' a w) a w
def FL{α:Type}:∀ (n k:Nat),(aO.bare n:aO α).get k=none
 |0,k=>rfl
 |n+1,k=>by
  rw[aO.bare,aO.xX];cases Nat.beq k 0 with
  |true=>rfl
  |false=>
   cases Nat.beq (k%2) 1 with
   |true=>exact FL n _| false=>exact FL n _
section
variable{X:bO}{G:GT}{pr:g5}{D:a4}{m:aU}{F:Fr}{ah:aO ai}{C:b6}{I:aG}{M:List aC}
def FM(bM:ku D F ah)(hm:bP (b' X G pr) D m I M):∀ {aV:List ResultVar} {vs:List ai} {K:List Value->Prop},rq (b' X G pr) ah m.t aV=some vs->(∀ us,a6 D vs us->K us)->m6 X F C I M aV K
 |[],vs,K,h,aj=>by simp only[rq]at h;cases h;exact aj [] .nil
 | .tmp t::l,vs,K,h,aj=>by
  simp only[rq]at h;split at h;·rename_i v me U aa;cases h;obtain⟨u,ax,aI⟩:=(show dn D (bZ F (.tmp t)) v from bM t v U).cf;unfold m6;rw[ax];exact FM bM hm aa λus di=>aj _ (.cons aI di)
  ·cases h
 | .cell t ty::l,vs,K,h,aj=>by
  simp only[rq]at h;split at h
  ·rename_i x i me U aa ak;split at h
   ·rename_i v af;cases h;have jk:∀ q,x≠.b q:=λq e=>by subst e;cases af
    obtain⟨u,ax,aI⟩:=dn.oZ (bM t x U:dn D (bZ F (.tmp t)) x) jk;obtain⟨ad,bY,vt,rfl,cj,au,aK⟩:=ry hm aI af;have ia:X.E ty=some i:=aa;have cq:bZ F (.tmp t)=.val (.pointer (some ad)):=ax;unfold m6;rw[cq,ia];exact⟨vt,cj,FM bM hm ak λus di=>aj _ (.cons (AM aK au) di)⟩
   ·cases h
  ·cases h
end
def Mf(aA:bV Y.P Y.E)(bM:o6 Y.P)(hR:qd Y)(aB:tw Y f){m:aU}{v:ai}{fn:Func}{c:Code}(az:Y.P.funcs[g]?=some fn)(ag:fn.body=some c)(hle:args.length<=fn.ntmps){ah bL:aO ai}(po:∀ t w,ah.get t=some w->args[t]?=some w){b3:aU}(hex:ex=.normal\/ex=.ret)(h:gD Y f true fn.ntmps c ah m=some (ex,bL,b3)){vs:List ai}(al:rq Y bL b3.t fn.results.toList=some vs)
  (af:v=Lg vs) (hu:a6 D args us) (hm:bP Y D m I M):ql Y.P g us I M λr I' M'=>∃ aW,D.ext aW m.n/\ay aW v r/\bP Y aW b3 I' M':=by
 obtain⟨bm,vY⟩:=bM g fn c az ag;refine G2 (List.range fn.ntmps) aA az ag vY ?_ λB aD a w aM=>?_
 ·rw[bs];exact⟨tv bm,uK (by rw[hu.len];exact hle)⟩
 ·have UH:ku D (se us) ah:=λt w hw=>by obtain⟨x,U,aa⟩:=hu.get (po t w hw);refine .inl ⟨x,?_,aa⟩;simp only[se,U]
  have g3:gW (fK Y fn.ntmps B aD I (M.map (·.num)) none) Y.G Y.pr D m.n ah m a w:=⟨D,_,_,I,M,aM,UH,hm,a4.jr,cK _⟩;refine wpIn_mono (aB _ _ _ _ _ _ _ _ h bm B aD I (M.map (·.num)) none D m.n a w (λ_=>rfl) g3) ?_;rintro e bl w'⟨rfl,aW,cy,C',I',M',n',GJ,lB,ab,aF⟩;have xm:∀ tm,tm=.normal\/tm=.ret->qy (fK Y fn.ntmps B aD I (M.map (·.num)) none) fn.results.toList (λr I' M'=>∃ aW,D.ext aW m.n/\ay aW v r/\bP Y aW b3 I' M') tm cy C' I' M':=λtm he=>by
   have UI:=FM (X:=fK Y fn.ntmps B aD I (M.map (·.num)) none) (G:=Y.G) (pr:=Y.pr) (C:=C') GJ lB al (K:=λvs=>match vs with
    |[mR]=>qx (M.map (·.num)) I' M' ((λr I' M'=>∃ aW,D.ext aW m.n/\ay aW v r/\bP Y aW b3 I' M') mR)
    |vs=>qx (M.map (·.num)) I' M' ((λr I' M'=>∃ aW,D.ext aW m.n/\ay aW v r/\bP Y aW b3 I' M') (.tuple vs.toArray))) λvt di=>by
     clear al
     match vs,vt,di,af with
     |[],vt,di,af=>rw[di.iv];refine⟨I',M',.refl,aW,ab,?_,lB⟩;rw[af];exact .AL .nil| [v1],vt,di,af=>obtain⟨x,xs,U,aa,rfl⟩:=di.gv;rw[aa.iv];refine⟨I',M',.refl,aW,ab,?_,lB⟩;rw[af];exact U
     |v1::v2::vs,vt,di,af=>obtain⟨x,xs,U,aa,rfl⟩:=di.gv;obtain⟨y,E1,ak,aL,rfl⟩:=aa.gv;refine⟨I',M',.refl,aW,ab,?_,lB⟩;rw[af];exact .AL di
   rcases he with rfl | rfl<;>exact UI
  rcases hex with rfl | rfl;·exact⟨cy,C',I',M',n',xm _ (.inl rfl)⟩
  ·exact⟨cy,C',I',M',n',xm _ (.inr rfl)⟩
def Spec.mS{args:List Value}{p q:Value->aG->List aC->Prop}(h:Spec P f args I M p)(aj:∀ v I' M',p v I' M'->q v I' M'):Spec P f args I M q:=by
 rcases h with⟨U,aa⟩ | h
 ·refine .inl ⟨U,λw hw=>?_⟩;refine(aa w hw).mono ?_;rintro e w'⟨v,I',M',ax,aS,b5,ea⟩;exact⟨v,I',M',ax,aj _ _ _ aS,b5,ea⟩
 ·refine .inr λw hw=>?_;obtain⟨v,w',I',M',ax,aS,b5,ea⟩:=h w hw;exact⟨v,w',I',M',ax,aj _ _ _ aS,b5,ea⟩
section
variable{Y:dJ}{D:a4}{m m':aU}{I:aG}{M:List aC}
def Mg(aA:bV Y.P Y.E)(bM:o6 Y.P)(hR:qd Y)(aB:tw Y f){v:ai}(h:AA Y (gD Y f) g args m=some (v,m'))(hu:a6 D args us)(hm:bP Y D m I M) :
  ql Y.P g us I M λr I' M'=>∃ aW,D.ext aW m.n/\ay aW v r/\bP Y aW m' I' M':=by
 unfold AA at h;obtain⟨fn,az,U⟩:=bD h;obtain⟨c,ag,aa⟩:=bD U;obtain⟨hle,ak⟩:=dR aa;obtain⟨ah,aI,aQ⟩:=aO.p6 args (aO.bare 12) 0;rw[aI]at ak;have po:∀ t w,ah.get t=some w->args[t]?=some w:=λt w hw=>by
  rcases aQ t w hw with⟨_,h⟩ | ⟨_,h⟩;·simpa using h
  ·rw[FL]at h;cases h
 unfold Lh at ak;split at ak
 ·rename_i bL b3 ab;unfold Az at ak;obtain⟨vs,al,aL⟩:=bD ak;cases aL;exact Mf aA bM hR aB az ag (bk hle) po (.inl rfl) ab al rfl hu hm
 ·rename_i bL b3 ab;unfold Az at ak;obtain⟨vs,al,aL⟩:=bD ak;cases aL;exact Mf aA bM hR aB az ag (bk hle) po (.inr rfl) ab al rfl hu hm
 ·cases ak
def Mh(aA:bV Y.P Y.E)(bM:o6 Y.P)(hR:qd Y)(aB:tw Y f){v:ai}(h:oY Y (gD Y f) g args m=some (v,m'))(hu:a6 D args us)(hm:bP Y D m I M) :
  Spec Y.P g us I M λr I' M'=>∃ aW,D.ext aW m.n/\ay aW v r/\bP Y aW m' I' M':=by
 unfold oY at h;cases aK:Y.pr g args m with
 |none=>rw[aK]at h;exact .inl (Mg aA bM hR aB h hu hm)| some p=>rw[aK]at h;have aP:some p=some (v,m'):=h;cases aP;exact hR g args m v m' aK D I M us hu hm
def bE.kept{a:Act}{W:World}{C:b6}{M0:List aC}(h:bE X β a w F C I' M')(U:X.aD=W)(aa:X.B=W.heap.size)(ak:X.cg=cg)(aL:X.bA=M0.map (·.num)):Kept cg M0 W I' M' w where
 le:=by rw[<-ak];exact h.eg
 nX b o ag:=by
  rcases h.eB b o ag with be | be;·exact .inl (by rw[<-ak];exact be)
  ·exact .inr (by rw[<-aa];exact be)
 pg x ab:=by
  rcases h.own x ab with be | be;·rw[aL]at be;obtain⟨y,aE,e⟩:=dw.1 be;exact .inl ⟨y,aE,e⟩
  ·exact .inr (by rw[<-aa];exact be)
 cp b ag aF:=by rw[<-U];refine h.cp b (by rw[aa];exact ag) λhm=>?_;rw[aL]at hm;obtain⟨y,aE,e⟩:=dw.1 hm;exact aF y aE e
 out:=by rw[<-U];exact h.out
 sz:=by rw[<-aa];exact h.sz
def Mi{R:Type}:∀ {ps:List Nat} {args:List ai} {hQ:aO ai} {K:aO ai->Option R} {r:R} {us:List Value} {tmps:Array Value},vg ps args hQ K=some r->a6 D args us->(∀ t∈ps,t<tmps.size)->(∀ t v,hQ.get t=some v->ay D v (tmps.getD t undef)) -> ∃ c0,K c0=some r/\us.length=ps.length/\((ps.zip us).foldl (λ(tmps:Array Value) (p:Nat×Value)=>tmps.setIfInBounds p.1 p.2) tmps).size=tmps.size /\ ∀ t v,c0.get t=some v->ay D v (((ps.zip us).foldl (λ(tmps:Array Value) (p:Nat×Value)=>tmps.setIfInBounds p.1 p.2) tmps).getD t undef)
 |[],[],hQ,K,r,us,tmps,h,hu,aK,aD=>by have:=hu.iv;subst this;exact⟨hQ,h,rfl,rfl,aD⟩
 |[],_::_,hQ,K,r,us,tmps,h,hu,aK,aD=>by simp[vg]at h
 |_::_,[],hQ,K,r,us,tmps,h,hu,aK,aD=>by simp[vg]at h
 |t0::ps,o7::args,hQ,K,r,us,tmps,h,hu,aK,aD=>by
  obtain⟨x,xs,aI,aQ,rfl⟩:=hu.gv;simp only[vg]at h;obtain⟨c0,U,aa⟩:=aO.jn (some o7) hQ t0;rw[U]at h;have a0:=aK t0 (by simp);obtain⟨nR,ak,aL,be,bT⟩:=Mi (tmps:=tmps.setIfInBounds t0 x) h aQ (λt aq=>by simpa using aK t (by simp[aq])) λt v aq=>by
   rw[jt,tD];rcases aa t v aq with⟨rfl,e⟩ | ⟨br,aw⟩;·have:=(jo e);subst this;simp only[kE,a0];exact aI
   ·rw[cd (l' br),<-jt];exact aD t v aw
  exact⟨nR,ak,by simp[aL],by simpa using be,bT⟩
def gV.A5{n:Nat}{ah:aO ai}(h:gV D E M a (.loop b n ah ps cV body)):∃ L,(⟨a.b,.loop L⟩:aC)∈M/\xZ D b n ah ps cV body L:=by
 cases h with
 |loop L U aa=>exact⟨L,U,aa⟩
def gV.UJ{c:Code}{n:Nat}{ah:aO ai}(h:gV D E M a (.done c n ah ps cV body)):∃ L,(⟨a.b,.loop L⟩:aC)∈M/\L.state=.done/\L.pending=some c:=by
 cases h with
 |done L U aa ak=>exact⟨L,U,aa,ak⟩
def xZ.mono(bX:D.le aW){n:Nat}{ah:aO ai}{L:Loop}(h:xZ D b n ah ps cV body L):xZ aW b n ah ps cV body L:={ h with ah:=λt v aq=>(h.ah t v aq).mono bX }
def bP.swap(h:bP Y D m I M){l:Nat}{ax:dm}{o o':Obj}{Mr:List aC}(aw:m.t.get l=some cv)(aN:D l=some fB)(aZ:M.Perm (⟨fB.b,o⟩::Mr))(aq:∀ id e,cD.get id=some e->(id=l/\some ax=some e)\/(id≠l/\m.t.get id=some e))
  (he:gV D Y.E (⟨fB.b,o'⟩::Mr) fB ax):bP Y D ⟨cD,m.n⟩ I (⟨fB.b,o'⟩::Mr):=by
 refine h.step (λid e hi=>(aq id e hi).imp (λq=>⟨q.1,jo q.2⟩) λq=>q) aN (a4.le_refl D) (λ_ _=>rfl) h.fJ (λ_ _ h=>h) (λid e bl br hi kw x ab aF=>?_) he λid e bl br hi kw ag=>br (h.inj _ _ _ _ _ _ hi aw kw aN ag);rcases cU.1 (aZ.mem_iff.1 ab)with rfl | ab
 ·exact(br (h.inj _ _ _ _ _ _ hi aw kw aN aF.symm)).elim
 ·exact iO _ ab
end
section
variable{Y:dJ}{D:a4}{m m':aU}{I:aG}{M:List aC}
def UK(aB:tw Y f){l:Nat}{v:ai}(h:EL (gD Y f) l args m=some (v,m'))(au:D l=some fB)(hu:a6 D args us)(hm:bP Y D m I M) :
  wC Y.P fB.b us I M λr I' M'=>∃ aW,D.ext aW m.n/\ay aW v r/\bP Y aW m' I' M':=by
 unfold EL at h;split at h
 ·rename_i n hQ ps cV body aw;obtain⟨L,aZ,cN⟩:=(hm.fc _ _ _ aw au).A5;intro W e8;have wH:W.heap[fB.b]?=some (.loop L):=e8.m _ aZ;have g3:L.state=.ready:=cN.a3;have n4:∀ t∈ps,t<L.tmps.size:=λt aq=>by rw[cN.sz];exact cN.op t (by rw[cN.ps];exact aq)
  obtain⟨c0,U,hlen,bW,Mj⟩:=Mi (tmps:=L.tmps) h hu n4 cN.ah;have uB:L.params.size=ps.length:=by rw[<-cN.ps];simp
  refine⟨_,_,_,_,run_yield wH (by rw[uB];simpa using hlen),?_⟩;have Ca:(L.params.zip us.toArray).foldl (λtmps (x:Nat×Value)=>match x with | (t,a)=>tmps.setIfInBounds t a) L.tmps=(ps.zip us).foldl (λ(tmps:Array Value) (p:Nat×Value)=>tmps.setIfInBounds p.1 p.2) L.tmps:=by rw[<-Bp,<-cN.ps];simp
  rw[Ca];generalize bJ:(ps.zip us).foldl (λ(tmps:Array Value) (p:Nat×Value)=>tmps.setIfInBounds p.1 p.2) L.tmps=T at Mj bW;rw[cN.cV,cN.body];have qe:eN n cV=true:=by rw[<-cN.cV];exact cN.sG
  have Fj:eN n body=true:=by rw[<-cN.body];exact cN.jD
  refine roundIn_of_wpIn (F:=Fence.wide) (n:=0) trivial ?_;let og:bO:=fK Y n W.heap.size W I (M.map (·.num)) (some fB.b)
  have wb:bE og (λ_=>0) { tmps:=T,defers:=[] } W (λt=>.val (T.getD t undef)) (λ_=>none) I M:={
   size:=bW.trans cN.sz
   defers:=⟨[],rfl,tG,λr al=>by cases al⟩
   holds:=e8
   ah:=λt=>rfl
   bq:=λs cs an=>by cases an
   inj:=λs bx U=>by simp at U
   eg:=λb o ag=>ag
   eB:=λb o ag=>.inl ag
   own:=λx ab=>.inl (dw.2 ⟨x,ab,rfl⟩)
   cp:=λb ag az=>rfl
   out:=.refl _
   sz:=cK _ }
  unfold Lj at U;split at U
  ·rename_i nR m2 UL;have e6:gW og Y.G Y.pr D m.n c0 m { tmps:=T,defers:=[] } W:=⟨D,_,_,I,M,⟨_,wb⟩,λt v af=>.val (Mj t v af),hm,a4.jr,cK _⟩;refine wpIn_mono (aB _ _ _ _ _ _ _ _ UL qe _ _ _ _ _ D m.n _ _ (λe=>by cases e) e6) ?_;rintro e bK fx⟨rfl,A6,Mk,Ml,du,cQ,⟨Mm,kZ⟩,UM,ot,vr,vu⟩;have uu:A6 l=some fB:=by rw[vr l (hm.fJ _ _ au)];exact au
   have aa:EJ (gD Y f) l n body (m2.t.get l) nR m2=some (v,m'):=U;unfold EJ at aa;split at aa
   ·rename_i jR UN UO UP EK jc;obtain⟨rb,Mn,o8⟩:=(ot.fc _ _ _ jc uu).A5;obtain⟨pre,post,cX⟩:=nL Mn;have iw:cQ.Perm (⟨fB.b,.loop rb⟩::(pre++post)):=by rw[cX];exact q2
    have Mo:fx.heap[fB.b]?=some (.loop rb):=kZ.holds.m _ Mn;have UQ:=(hU.1 Mo).1;refine⟨_,run_beginRound Mo o8.a3,?_⟩;obtain⟨t3,ak,aL⟩:=aO.jn (some (dm.loop true jR UN UO UP EK)) m2.t l;rw[ak]at aa;have UR:bE og Mm bK (fx.putObj fB.b (.loop { rb with state:=.busy })) Mk Ml du (⟨fB.b,.loop { rb with state:=.busy }⟩::(pre++post)):=
     (kZ.gh (.perm iw .refl)).swap (by simp) (t' UQ) (λb ag=>hV ag) (yR _ _ _)
    have lb:bP Y A6 ⟨t3,m2.n⟩ du (⟨fB.b,.loop { rb with state:=.busy }⟩::(pre++post)):=ot.swap jc uu iw aL (.loop { rb with state:=.busy } (by simp) ⟨rfl,o8.j7,o8.sz,o8.ah,o8.ps,o8.cV,o8.body,o8.sG,o8.jD,o8.op⟩);unfold Li at aa;obtain⟨⟨ex,Ym,A7⟩,US,be⟩:=bD aa;have qM:gW og Y.G Y.pr D m.n nR ⟨t3,m2.n⟩ bK (fx.putObj fB.b (.loop { rb with state:=.busy })):=⟨A6,Mk,Ml,du,_,⟨Mm,UR⟩,UM,lb,vr,vu⟩;refine wpIn_mono (aB _ _ _ _ _ _ _ _ US Fj _ _ _ _ _ D m.n _ _ (λe=>by cases e) qM) ?_;rintro e dD fV⟨rfl,Mp,UT,UU,ng,ms,⟨UW,A8⟩,Yn,xA,Mq,Ms⟩;have Mt:Mp l=some fB:=by rw[Mq l (hm.fJ _ _ au)];exact au
    have bT:EI l (A7.t.get l) (uc ex) A7=some (v,m'):=be;unfold EI at bT;split at bT
    ·rename_i Mu Mv Mw Mx My pO;obtain⟨FN,Mz,rJ⟩:=(xA.fc _ _ _ pO Mt).A5;obtain⟨MA,MB,UX⟩:=nL Mz;have MC:ms.Perm (⟨fB.b,.loop FN⟩::(MA++MB)):=by rw[UX];exact q2
     have MD:fV.heap[fB.b]?=some (.loop FN):=A8.holds.m _ Mz;have UY:=(hU.1 MD).1;obtain⟨t5,er,eH⟩:=aO.jn (some (bg (uc ex) (dm.loop false Mu Mv Mw Mx My) λc=>dm.done c Mu Mv Mw Mx My)) A7.t l;rw[er]at bT;cases bT;have fin:∀ jump,uc ex=jump->∃ mR w',(Instr.endRound fB.b jump).run Y.P fV=.ok mR w'/\∃ r I' M',Ending.returned mR=.returned r/\(∃ aW,D.ext aW m.n/\ay aW (.b (uc ex).isNone) r/\bP Y aW ⟨t5,A7.n⟩ I' M')/\cL I' M' w'/\Kept I M W I' M' w':=by
      rintro jump ap;let A9:Loop:={ FN with state:=if jump.isNone then .ready else .done,pending:=jump }
      have ME:bE og UW dD (fV.putObj fB.b (.loop A9)) UT UU ng (⟨fB.b,.loop A9⟩::(MA++MB)):=
       (A8.gh (.perm MC .refl)).swap (by simp) (t' UY) (λb ag=>hV ag) (yR _ _ _)
      refine⟨_,_,run_endRound jump MD,_,ng,_,rfl,⟨Mp,Mq,?_,xA.swap pO Mt MC eH ?_⟩,ME.holds,ME.kept rfl rfl rfl rfl⟩;·rw[ap];simp[ay]
      ·rw[ap];cases jump with
       |none=>exact .loop A9 (by simp) ⟨rfl,rfl,rJ.sz,rJ.ah,rJ.ps,rJ.cV,rJ.body,rJ.sG,rJ.jD,rJ.op⟩| some c=>exact .done A9 (by simp) rfl rfl
     cases ex with
     |normal=>exact fin none rfl| exit id=>exact fin _ rfl| goto t=>exact fin _ rfl| ret=>exact fin _ rfl
    ·cases bT
   ·cases aa
  ·cases U
 ·cases h
end
section
variable{Y:dJ}
def UZ(aA:bV Y.P Y.E)(bM:o6 Y.P)(hR:qd Y)(aB:tw Y f):ye Y (AB Y (gD Y f)):=λT2 l m v m' h D I M u us qt di hm=>by
 unfold AB at h;split at h
 ·rename_i g bB cs;simp only[ay]at qt;obtain⟨vs,ws,U,aa,rfl⟩:=qt;refine .inl ⟨g,_,_,rfl,?_⟩;have:=Mh aA bM hR aB h (U.append (di.append aa)) hm;simpa using this
 ·rename_i q;simp only[ay]at qt;obtain⟨fB,U,rfl⟩:=qt;exact .inr ⟨fB.b,rfl,UK aB h U di hm⟩
 ·cases h
def gW.world{ah:aO ai}{m:aU}{a:Act}(h:gW X G pr D0 n0 ah m a w):∃ D F β,(∀ t,cI β (F t) (a.tmps.getD t undef))/\ku D F ah:=by obtain⟨D,F,C,I,M,⟨β,aM⟩,bM,_⟩:=h;exact⟨D,F,β,aM.ah,bM⟩
def gW.eval{ah:aO ai}{m:aU}{a:Act}(h:gW X G pr D0 n0 ah m a w)(ab:bS ah x=some (.b b)):a.eval x=.bool b:=by obtain⟨D,F,β,U,aa⟩:=h.world;obtain⟨u,ax,aI⟩:=(aa.op [x]).a' (x:=x) (by simp) ab;rw[b1 U ax,aI.bool]
def dn.ok{x:b0}{v:ai}(h:dn D x v)(ab:cI β x u):ay D v u:=by
 rcases h with⟨y,rfl,h⟩ | ⟨q,rfl,rfl⟩
 ·have:u=y:=ab;subst this;exact h
 ·have:u=.bool q:=ab;subst this;simp[ay]
def U0(aA:bV Y.P Y.E)(bM:o6 Y.P)(hR:qd Y)(aB:tw Y f){fb:Bool}{n:Nat}{ps:Array Tmp}{ah bL:aO ai}{m m':aU}(h:EN Y (gD Y f) fb n (bS ah x) ps.toList cV body ah m=some (ex,bL,m'))(bm:eN n (.rangeFunc x ps cV body)=true){B:Nat}{aD:World}{bA:List Nat}{ro:Option Nat}{a:Act}(hb:fb=true->ro=none)(an:gW (fK Y n B aD cg bA ro) Y.G Y.pr D0 n0 ah m a w) :
  (Code.rangeFunc x ps cV body).wpIn (dV (fK Y n B aD cg bA ro)) 0 Y.P (λe a w=>e=rI ex/\gW (fK Y n B aD cg bA ro) Y.G Y.pr D0 n0 bL m' a w) a w:=by
 unfold EN at h;split at h
 ·rename_i g cap ab;have Cc:=hb rfl;subst Cc;obtain⟨D,F,C,I,M,⟨β,aM⟩,FO,hm,dF,mw⟩:=an;obtain⟨u,ax,aI⟩:=(FO.op [x]).a' (x:=x) (by simp) ab;simp only[ay]at aI;obtain⟨vs,ws,U,aa,rfl⟩:=aI;have e5:=U.iv;subst e5;simp only[eN,bs]at bm;obtain⟨t1,ak,aL⟩:=x5 h;refine wpIn_rangeFunc λfn _=>?_;let eT:Loop:={ state:=.ready,pending:=none,fn:=fn,tmps:=a.tmps,params:=ps,assign:=cV,body:=body,defers:=w.heap.size }
  let l:=w.heap.size+1
  let gl:World:=(w.alloc (.deferred (some []))).alloc (.loop eT)
  have sq:=aM.HA.j1 (.loop eT);have au:(w.alloc (.deferred (some []))).heap.size=l:=by simp[l]
  rw[au]at sq;have U1:∀ q∈M,q.num≠l:=λq aR e=>by have:=aM.holds.lt aR;omega
  have MF:bP Y (D.set m.n ⟨l,0,0⟩) ⟨t1,m.n+1⟩ I (⟨l,.loop eT⟩::M):=hm.new (a:=⟨l,0,0⟩) ak U1 (.loop eT (by simp) ⟨rfl,rfl,aM.size,λt v aq=>((FO t v aq).ok (aM.ah t)).mono (a4.rz _ hm.fresh),rfl,rfl,rfl,bm.1,bm.2.1,λt aq=>bk (eO.1 bm.2.2 t aq)⟩);unfold Lm at aL;obtain⟨⟨v,m2⟩,hF,be⟩:=bD aL;have MG:=a4.rz (D:=D) ⟨l,0,0⟩ hm.fresh;have hN:a6 (D.set m.n ⟨l,0,0⟩) (.y m.n::cap) (.func (.yield l) #[] #[]::ws):=.cons (by simp only[ay];exact⟨_,a4.lg _ _ _,rfl⟩) (aa.mono MG);obtain⟨j2,r9⟩:=Mg aA bM hR aB hF hN MF;have U2:=r9 gl sq.holds;have aS:=b1 aM.ah ax;refine⟨l,[pj w.heap.size],gl,{ target:=.fn (.func g) ws.toArray,args:=#[.func (.yield l) #[] #[]] },gl,g,(.func (.yield l) #[] #[]::ws).toArray,gl,?_,?_,λ_ _=>trivial,?_,(λh=>by cases h),?_⟩;·show(Instr.enterLoop fn a.tmps ps cV body none).run Y.P w=_;exact run_enterLoop_outer fn a.tmps ps cV body
  ·show(Deferred.ofValue (a.eval x) (#[Operand.const (.func (.yield l) #[] #[])].map a.eval)).run Y.P gl=_;rw[aS];simp[Deferred.ofValue,Act.eval]
  ·simp only[invoke];rw[show #[Value.func (.yield l) #[] #[]]++ws.toArray=(.func (.yield l) #[] #[]::ws).toArray from by apply dT;simp];exact j2 _ _
  ·refine(BC (X:=fK Y n B aD cg bA none) U2 _).mono ?_;rintro e ja⟨r,iE,sr,rfl,⟨yo,FP,Qy,lb⟩,MH,U3⟩;have qN:=sq.after (Mr:=[]) (by simp) MH U3;rw[hd]at qN;have ss:yo m.n=some ⟨l,0,0⟩:=by rw[FP m.n (yI _)];exact a4.lg _ _ _
   have U4:=MF.le FP;have U5:ku yo F ah:=λt v aq=>(FO t v aq).mono (a4.le_trans MG U4);have U6:D0.ext yo n0:=λi hi=>by
    have ec:i<m.n+1:=by
     have:i<m.n:=by omega
     omega
    rw[FP i ec];show(if i=m.n then _ else D i)=D0 i;rw[cd (by omega)];exact dF i hi
   have fin:∀ (L:Loop) (t4:aO dm) (j:Option Code),(⟨l,.loop L⟩:aC)∈sr->L.state≠.busy->L.pending=j->(∃ cv,m2.t.get m.n=some cv)->(∀ id e,t4.get id=some e->(id=m.n/\(none:Option dm)=some e)\/(id≠m.n/\m2.t.get id=some e))->n0<=m2.n ->
     ∃ fV,(Instr.endLoop l).run Y.P ja=.ok j fV/\gW (fK Y n B aD cg bA none) Y.G Y.pr D0 n0 ah ⟨t4,m2.n⟩ { a with defers:=[pj w.heap.size]++a.defers } fV:=by
    rintro L t4 j cN ag aK⟨cv,U7⟩Di Ms;have U8:ja.heap[l]?=some (.loop L):=MH.m _ cN;obtain⟨pre,post,cX⟩:=nL cN;have iw:sr.Perm (⟨l,.loop L⟩::(pre++post)):=by rw[cX];exact q2
    have hJ:∀ i cW,t4.get i=some cW->i≠m.n/\m2.t.get i=some cW:=λi cW hi=>by
     rcases Di i cW hi with⟨_,eH⟩ | eH;·cases eH
     ·exact eH
    have A8:=(qN.gh (.perm iw .refl)).wF (o':=.loop { L with state:=.exhausted });refine⟨_,(by rw[<-aK];exact run_endLoop U8 ag),yo,F,C,iE,pre++post,⟨β,A8⟩,U5,⟨λi cW b hi ft=>?_,λi eb cW rE b ff hi cr=>lb.inj i eb cW rE b ff (hJ i cW hi).2 (hJ eb rE cr).2,lb.fJ,lb.kt⟩,U6,Ms⟩;refine(lb.fc i cW b (hJ i cW hi).2 ft).mono (a4.le_refl yo) λq aR aF=>?_;rcases cU.1 (iw.mem_iff.1 aR)with rfl | aR;·exact((hJ i cW hi).1 (lb.inj _ _ _ _ _ _ (hJ i cW hi).2 U7 ft ss aF.symm)).elim
    ·exact aR
   have vu:∀ {cv:dm},m2.t.get m.n=some cv->n0<=m2.n:=λ_=>by have:=lb.fJ _ _ ss;omega
   have bT:(match m2.t.get m.n with
    |some (.loop false ..)=>m2.t.iu none m.n λt=>some (m4.normal,ah,(⟨t,m2.n⟩:aU))
    |some (.done c ..)=>bg (EM c) none λex=>m2.t.iu none m.n λt=>some (ex,ah,⟨t,m2.n⟩)
    |_=>none)=some (ex,bL,m'):=be
   split at bT;·rename_i Jz U9 U' Va Vb je;obtain⟨L,cN,MI⟩:=(lb.fc _ _ _ je ss).A5;obtain⟨t4,er,eH⟩:=aO.jn (none:Option dm) m2.t m.n;rw[er]at bT;cases bT;obtain⟨fV,eE,qO⟩:=fin L t4 none cN (by rw[MI.a3];simp) MI.j7 ⟨_,je⟩ eH (vu je);exact⟨none,fV,eE,rfl,qO⟩
   ·rename_i c Jz U9 U' Va Vb je;obtain⟨L,cN,g3,Vc⟩:=(lb.fc _ _ _ je ss).UJ;obtain⟨tm,hex,bT⟩:=bD bT;obtain⟨t4,er,eH⟩:=aO.jn (none:Option dm) m2.t m.n;rw[er]at bT;cases bT;obtain⟨fV,eE,qO⟩:=fin L t4 (some c) cN (by rw[g3];simp) Vc ⟨_,je⟩ eH (vu je);refine⟨some c,fV,eE,?_⟩;unfold EM at hex;split at hex
    ·cases hex;exact wpIn_exit ⟨rfl,qO⟩
    ·cases hex;exact wpIn_goto ⟨rfl,qO⟩
    ·cases hex;exact wpIn_ret ⟨rfl,qO⟩
    ·cases hex
   ·cases bT
 ·cases h
end
section
variable{Y:dJ}
def MJ{next:Act->World->Prop}{a:Act}(h:Q (rI ex) a w)(br:ex≠.normal):Exit.then next Q (rI ex) a w:=by cases ex<;>first | exact(br rfl).elim | exact h
def Vd(aA:bV Y.P Y.E)(bM:o6 Y.P)(hR:qd Y)(gb:Y.P.follows .mixedOrders=true):∀ f k,k<=f->tw Y k:=by
 intro f
 induction f with
 |zero=>
  intro k aj fb n c ah m ex bL m' h;have:k=0:=by omega
  subst this;cases h
 |succ f aX=>
  intro k aj;by_cases Ve:k<=f;·exact aX k Ve
  have uo:k=f+1:=by omega
  subst uo;have aB:=aX f (cK _);have hF:=UZ aA bM hR aB;intro fb n c ah m ex bL m' h bm B aD cg bA ro D0 n0 a w hb an;have U:EO Y f (gD Y f) fb n c ah m=some (ex,bL,m'):=h;have gi:=@fK.eX Y n B aD cg bA ro;unfold EO at U;cases c with
  |skip=>cases U;exact wpIn_skip ⟨rfl,an⟩| label l=>cases U;exact wpIn_label ⟨rfl,an⟩| ret=>cases U;exact wpIn_ret ⟨rfl,an⟩| exit id=>cases U;exact wpIn_exit ⟨rfl,an⟩| goto l=>cases U;exact wpIn_goto ⟨rfl,an⟩| refuse s=>cases U
  |seq x y=>
   simp only[eN,bs]at bm;simp only[xV]at U;split at U;·rename_i c0 b3 ab;refine wpIn_seq (wpIn_mono (aB _ _ _ _ _ _ _ _ ab bm.1 B aD cg bA ro D0 n0 a w hb an) ?_);rintro e bK fx⟨rfl,e6⟩;exact aB _ _ _ _ _ _ _ _ U bm.2 B aD cg bA ro D0 n0 bK fx hb e6
   ·rename_i ed;refine wpIn_seq (wpIn_mono (aB _ _ _ _ _ _ _ _ U bm.1 B aD cg bA ro D0 n0 a w hb an) ?_);rintro e bK fx⟨rfl,e6⟩;exact MJ ⟨rfl,e6⟩ λe=>ed bL m' (by rw[U,e])
  |block id c=>
   simp only[eN]at bm;simp only[Lk]at U;split at U
   ·rename_i j c0 b3 ab;refine wpIn_block (wpIn_mono (aB _ _ _ _ _ _ _ _ ab bm B aD cg bA ro D0 n0 a w hb an) ?_);rintro e bK fx⟨rfl,e6⟩;simp only[rI,Exit.inBlock];by_cases ap:j=id
    ·subst ap;rw[kF]at U;have aa:some (m4.normal,c0,b3)=some (ex,bL,m'):=U;cases aa;rw[ck rfl];exact⟨rfl,e6⟩
    ·rw[eQ ap]at U;have aa:some (m4.exit j,c0,b3)=some (ex,bL,m'):=U;cases aa;rw[cd ap];exact⟨rfl,e6⟩
   ·rename_i ed;refine wpIn_block (wpIn_mono (aB _ _ _ _ _ _ _ _ U bm B aD cg bA ro D0 n0 a w hb an) ?_);rintro e bK fx⟨rfl,e6⟩;cases ex with
    |exit j=>exact(ed j bL m' U).elim| normal=>exact⟨rfl,e6⟩| goto l=>exact⟨rfl,e6⟩| ret=>exact⟨rfl,e6⟩
  |cond x fu fF=>
   simp only[eN,bs]at bm;simp only[Ll]at U;split at U
   ·rename_i b ab;refine wpIn_cond (an.eval ab) ?_;cases b with
    |true=>exact aB _ _ _ _ _ _ _ _ U bm.1 B aD cg bA ro D0 n0 a w hb an| false=>exact aB _ _ _ _ _ _ _ _ U bm.2 B aD cg bA ro D0 n0 a w hb an
   ·cases U
  |loop c=>
   simp only[eN]at bm;let J (k:Nat) (a:Act) (w:World):Prop:=k<=f+1/\∃ c0 b3,gD Y k fb n (.loop c) c0 b3=some (ex,bL,m')/\gW (fK Y n B aD cg bA ro) Y.G Y.pr D0 n0 c0 b3 a w
   refine yY J (m:=f+1) ⟨cK _,ah,m,h,an⟩ ?_;rintro k bK fx⟨aj,c0,b3,aa,e6⟩;cases k with
   |zero=>cases aa
   |succ k=>
    have MK:=aX k (by omega);have ak:xV (gD Y k fb n c c0 b3) (gD Y k fb n (.loop c))=some (ex,bL,m'):=aa;simp only[xV]at ak;split at ak;·rename_i nR m2 ab;refine wpIn_mono (MK _ _ _ _ _ _ _ _ ab bm B aD cg bA ro D0 n0 bK fx hb e6) ?_;rintro e cm gl⟨rfl,ls⟩;exact⟨k,yI k,by omega,nR,m2,ak,ls⟩
    ·rename_i ed;refine wpIn_mono (MK _ _ _ _ _ _ _ _ ak bm B aD cg bA ro D0 n0 bK fx hb e6) ?_;rintro e cm gl⟨rfl,ls⟩;exact MJ ⟨rfl,ls⟩ λe=>ed bL m' (by rw[ak,e])
  |region id ops Vf=>
   cases Vf with
   |false=>simp only[AD]at U;obtain⟨⟨c0,b3⟩,ab,aa⟩:=bD U;cases aa;refine wpIn_region ?_;have:=Fo (X:=fK Y n B aD cg bA ro) (G:=Y.G) (pr:=Y.pr) (D0:=D0) (n0:=n0) aA gi hF ops (λe a w=>e=rI .normal/\gW (fK Y n B aD cg bA ro) Y.G Y.pr D0 n0 c0 b3 a w) (λa w h=>⟨rfl,h⟩) ops.toList 0 (by simp) (yX bm) ab an;have eE:wpOpsIn (dV (fK Y n B aD cg bA ro)) 0 Y.P ops (λe a w=>e=rI .normal/\gW (fK Y n B aD cg bA ro) Y.G Y.pr D0 n0 c0 b3 a w) (List.range' 0 ops.toList.length) a w:=this;rw[Bn];simpa using eE
   |true=>simp only[AD]at U;obtain⟨⟨c0,b3⟩,ab,aa⟩:=bD U;cases aa;exact Ud (X:=fK Y n B aD cg bA ro) (G:=Y.G) (pr:=Y.pr) (D0:=D0) (n0:=n0) aA gi hF gb bm ab (λa w h=>⟨rfl,h⟩) an
  |scope c=>
   simp only[eN]at bm;have step:∀ (k:Nat) (x:Code) (c0:aO ai) (b3:aU) (bK:Act) (fx:World),eN n x=true->xW (gD Y f) fb n c (k+1) x c0 b3=some (ex,bL,m')->gW (fK Y n B aD cg bA ro) Y.G Y.pr D0 n0 c0 b3 bK fx ->
     x.wpIn (dV (fK Y n B aD cg bA ro)) 0 Y.P (λe bl w'=>match e with
      | .goto l=>∃ rest nR m2,findLabel c l=some rest/\xW (gD Y f) fb n c k rest nR m2=some (ex,bL,m')/\gW (fK Y n B aD cg bA ro) Y.G Y.pr D0 n0 nR m2 bl w'| e=>e=rI ex/\gW (fK Y n B aD cg bA ro) Y.G Y.pr D0 n0 bL m' bl w') bK fx:=λk x c0 b3 bK fx ab aa e6=>by
    have ak:(match gD Y f fb n x c0 b3 with
     |some (.goto l,ah,m)=>bg (findLabel c l) none λrest=>xW (gD Y f) fb n c k rest ah m
     |r=>r)=some (ex,bL,m'):=aa
    split at ak;·rename_i l nR m2 he;obtain⟨rest,qF,aL⟩:=bD ak;refine wpIn_mono (aB _ _ _ _ _ _ _ _ he ab B aD cg bA ro D0 n0 bK fx hb e6) ?_;rintro e cm gl⟨rfl,ls⟩;exact⟨rest,nR,m2,qF,aL,ls⟩
    ·rename_i ed;refine wpIn_mono (aB _ _ _ _ _ _ _ _ ak ab B aD cg bA ro D0 n0 bK fx hb e6) ?_;rintro e cm gl⟨rfl,ls⟩;cases ex with
     |goto l=>exact(ed l bL m' ak).elim| exit j=>exact⟨rfl,ls⟩| normal=>exact⟨rfl,ls⟩| ret=>exact⟨rfl,ls⟩
   let J (l k:Nat) (a:Act) (w:World):Prop:=∃ rest c0 b3,findLabel c l=some rest/\xW (gD Y f) fb n c k rest c0 b3=some (ex,bL,m')/\gW (fK Y n B aD cg bA ro) Y.G Y.pr D0 n0 c0 b3 a w
   cases f with
   |zero=>cases U
   |succ sE=>
    refine Hv J (wpIn_mono (step sE c ah m a w bm U an) ?_) ?_
    ·intro e bK fx he;cases e with
     |goto l=>exact⟨sE,he⟩| _=>exact he
    ·rintro l k bK fx⟨rest,c0,b3,qF,aa,e6⟩;cases k with
     |zero=>cases aa
     |succ k=>
      refine⟨rest,qF,wpIn_mono (step k rest c0 b3 bK fx (FK bm qF) aa e6) ?_⟩;intro e cm gl he;cases e with
      |goto bY=>exact⟨k,yI k,he⟩| _=>exact he
  |rangeFunc x ps cV body=>exact U0 aA bM hR aB U bm hb an
def reckon(aA:bV Y.P Y.E)(bM:o6 Y.P)(hR:qd Y)(gb:Y.P.follows .mixedOrders=true){m m':aU}{v:ai}(h:oY Y (gD Y f) g args m=some (v,m'))(hu:a6 D args us)(hm:bP Y D m I M) : Spec Y.P g us I M λr I' M'=>∃ aW,D.ext aW m.n/\ay aW v r/\bP Y aW m' I' M':=
 Mh aA bM hR (Vd aA bM hR gb f f (cK _)) h hu hm
end
def ML{w':World}(h:cL I M w)(U:cL I' M' w')(aa:Kept I [] w I' M' w') :
  cL I' (M'++M) w'/\Kept I M w I' (M'++M) w'/\∀ x∈M',∀ y∈M,x.num≠y.num:=by
 have a0:∀ x∈M,x.num<w.heap.size:=λx ab=>(hU.1 (h.m x ab)).1;have eD:∀ x∈M',w.heap.size<=x.num:=λx ab=>by
  rcases aa.pg x ab with⟨y,aE,_⟩ | h;·cases aE
  ·exact h
 have br:∀ x∈M',∀ y∈M,x.num≠y.num:=λx ab y aE e=>by have:=a0 y aE;have:=eD x ab;omega
 refine⟨⟨U.i,λx ab=>?_,λx ab=>?_,?_⟩,⟨aa.le,aa.nX,λx ab=>?_,λb ag _=>aa.cp b ag (by simp),aa.out,aa.sz⟩,br⟩
 ·rcases c9.1 ab with ab | ab
  ·exact U.m x ab
  ·rw[aa.cp x.num (a0 x ab) (by simp)];exact h.m x ab
 ·rcases c9.1 ab with ab | ab
  ·exact U.d x ab
  ·cases he:I' x.num with
   |none=>rfl
   |some o=>
    rcases aa.nX _ _ he with ak | ak;·rw[h.d x ab]at ak;cases ak
    ·have:=a0 x ab;omega
 ·rw[kC,tF];refine⟨U.bH,h.bH,λa aN b ag e=>?_⟩;obtain⟨x,ab,rfl⟩:=dw.1 aN;obtain⟨y,aE,rfl⟩:=dw.1 ag;exact br x ab y aE e
 ·rcases c9.1 ab with ab | ab
  ·exact .inr (eD x ab)
  ·exact .inl ⟨x,ab,rfl⟩
def Spec.frame{args:List Value}{Q:Value->aG->List aC->Prop}(h:Spec P f args I [] Q):Spec P f args I M λr I' iD=>∃ M',iD=M'++M/\(∀ x∈M',∀ y∈M,x.num≠y.num)/\(∀ b o,I b=some o->I' b=some o)/\Q r I' M':=by
 have aD:∀ {w:World},cL I M w->cL I [] w:=λhw=>⟨hw.i,by simp,by simp,by simp⟩;rcases h with⟨U,aa⟩ | h
 ·refine .inl ⟨U,λw hw=>?_⟩;refine(aa w (aD hw)).mono ?_;rintro e w'⟨v,I',M',ax,aS,b5,ea⟩;obtain⟨aI,aQ,bG⟩:=ML hw b5 ea;exact⟨v,I',M'++M,ax,⟨M',rfl,bG,ea.le,aS⟩,aI,aQ⟩
 ·refine .inr λw hw=>?_;obtain⟨v,w',I',M',ax,aS,b5,ea⟩:=h w (aD hw);obtain⟨aI,aQ,bG⟩:=ML hw b5 ea;exact⟨v,w',I',M'++M,ax,⟨M',rfl,bG,ea.le,aS⟩,aI,aQ⟩
mutual
def fL(k:Nat):ai->ai
 | .p id off=>.p (Nat.add id k) off| .sl id off n c=>.sl (Nat.add id k) off n c| .sx id off e n=>.sx (Nat.add id k) off e n| .m id=>.m (Nat.add id k)| .y id=>.y (Nat.add id k)| .f g l r=>.f g (kx k l) (kx k r)| .u1 t v=>.u1 t (fL k v)| .t l=>.t (kx k l)| .a l=>.a (kx k l)| .b x=>.b x| .i a n=>.i a n| .s l=>.s l| .pn=>.pn| .g n off=>.g n off| .sn=>.sn| .gs n off a c=>.gs n off a c| .so=>.so| .mn=>.mn| .fn=>.fn| .ni=>.ni
def kx(k:Nat):List ai->List ai
 |[]=>[]| v::l=>fL k v::kx k l
end
section
mutual
def vv{D0 D:a4}{k:Nat}(bX:∀ id a,D0 id=some a->D (Nat.add id k)=some a):∀ (v:ai) {u:Value},ay D0 v u->ay D (fL k v) u
 | .p id off,u,h=>by simp only[ay,fL]at h |-;obtain⟨a,aN,h⟩:=h;exact⟨a,bX _ _ aN,h⟩
 | .sl id off n c,u,h=>by simp only[ay,fL]at h |-;obtain⟨a,aN,h⟩:=h;exact⟨a,bX _ _ aN,h⟩
 | .sx id off e n,u,h=>by simp only[ay,fL]at h |-;obtain⟨a,aN,h⟩:=h;exact⟨a,bX _ _ aN,h⟩
 | .m id,u,h=>by simp only[ay,fL]at h |-;obtain⟨a,aN,h⟩:=h;exact⟨a,bX _ _ aN,h⟩
 | .y id,u,h=>by simp only[ay,fL]at h |-;obtain⟨a,aN,h⟩:=h;exact⟨a,bX _ _ aN,h⟩
 | .f g l r,u,h=>by simp only[ay,fL]at h |-;obtain⟨vs,ws,U,aa,h⟩:=h;exact⟨vs,ws,yp bX l U,yp bX r aa,h⟩
 | .u1 t v,u,h=>by simp only[ay,fL]at h |-;obtain⟨x,U,h⟩:=h;exact⟨x,vv bX v U,h⟩
 | .t l,u,h=>by simp only[ay,fL]at h |-;obtain⟨x,U,h⟩:=h;exact⟨x,yp bX l U,h⟩
 | .a l,u,h=>by simp only[ay,fL]at h |-;obtain⟨x,U,h⟩:=h;exact⟨x,yp bX l U,h⟩
 | .b x,u,h=>by simpa only[ay,fL]using h
 | .i a n,u,h=>by simpa only[ay,fL]using h
 | .s l,u,h=>by simpa only[ay,fL]using h
 | .pn,u,h=>by simpa only[ay,fL]using h
 | .g n off,u,h=>by simpa only[ay,fL]using h
 | .sn,u,h=>by simpa only[ay,fL]using h
 | .gs n off a c,u,h=>by simpa only[ay,fL]using h
 | .so,u,h=>by simpa only[ay,fL]using h
 | .mn,u,h=>by simpa only[ay,fL]using h
 | .fn,u,h=>by simpa only[ay,fL]using h
 | .ni,u,h=>by simpa only[ay,fL]using h
def yp{D0 D:a4}{k:Nat}(bX:∀ id a,D0 id=some a->D (Nat.add id k)=some a):∀ (l:List ai) {us:List Value},a6 D0 l us->a6 D (kx k l) us
 |[],us,h=>by simpa only[a6,kx]using h
 |v::l,us,h=>by simp only[a6,kx]at h |-;obtain⟨x,xs,U,aa,h⟩:=h;exact⟨x,xs,vv bX v U,yp bX l aa,h⟩
end
end
inductive nS where
 |cells(l:List ai)(T:Nat)| map (es:List (ai×ai))
noncomputable def yq:dm->Option nS
 | .cells cs T c3=>cs.u0 0 c3 λl=>some (.cells l T)
 | .map es=>some (.map es)| _=>none
noncomputable def readAll(t:aO dm):Nat->Nat->Option (List nS)
 |_,0=>some []| id,n+1=>bg (t.get id) none λe=>bg (yq e) none λs=>bg (readAll t (Nat.add id 1) n) none λl=>some (s::l)
def FQ(k:Nat):List (ai×ai)->List (ai×ai)
 |[]=>[]| p::l=>(fL k p.1,fL k p.2)::FQ k l
noncomputable def nS.fc(k:Nat):nS->dm
 | .cells l T=>aO.p1 (kx k l) .nil 0 λcs=>.cells cs T l.length
 | .map es=>.map (FQ k es)
noncomputable def A'{R:Type}(k:Nat):List nS->Nat->aO dm->(aO dm->R)->R
 |[],_,t,K=>K t| s::l,id,t,K=>t.iu (some (s.fc k)) id λt=>A' k l (Nat.add id 1) t K
noncomputable def FR(v:ai)(L:List nS)(m:aU):Option (ai×aU):=lf m.n λn=>lf (Nat.add n L.length) λjR=>A' n L n m.t λt=>some (fL n v,⟨t,jR⟩)
def MM{t:aO dm}:∀ {n id:Nat} {L:List nS},readAll t id n=some L->L.length=n/\∀ j s,L[j]?=some s->∃ e,t.get (id+j)=some e/\yq e=some s
 |0,id,L,h=>by cases h;exact⟨rfl,by simp⟩
 |n+1,id,L,h=>by
  unfold readAll at h;obtain⟨e,U,h⟩:=bD h;obtain⟨s,aa,h⟩:=bD h;obtain⟨l,ak,h⟩:=bD h;cases h;obtain⟨aI,aQ⟩:=MM ak;refine⟨by simp[aI],λj bx ap=>?_⟩;cases j with
  |zero=>cases ap;exact⟨e,U,aa⟩| succ j=>obtain⟨b2,cH,cz⟩:=aQ j bx (by simpa using ap);refine⟨b2,?_,cz⟩;rw[<-cH];congr 1;show id+(j+1)=id+1+j;omega
def MN(k:Nat):∀ (L:List nS) (id:Nat) (t:aO dm),∃ cD:aO dm,(∀ {R:Type} (K:aO dm->R),A' k L id t K=K cD) /\ ∀ j e,cD.get j=some e->(id<=j/\∃ s,L[j-id]?=some s/\e=s.fc k)\/((j<id\/id+L.length<=j)/\t.get j=some e)
 |[],id,t=>⟨t,λK=>rfl,λj e h=>.inr ⟨by simp;omega,h⟩⟩
 |s::L,id,t=>by
  obtain⟨t1,U,aa⟩:=aO.jn (some (s.fc k)) t id;obtain⟨cD,ak,aL⟩:=MN k L (id+1) t1;refine⟨cD,λK=>?_,λj e h=>?_⟩;·unfold A';rw[U];exact ak K
  ·rcases aL j e h with⟨aI,bx,aQ,bG⟩ | ⟨aI,aQ⟩
   ·refine .inl ⟨by omega,bx,?_,bG⟩;rw[show j-id=(j-(id+1))+1 by omega];simpa using aQ
   ·rcases aa j e aQ with⟨rfl,bG⟩ | ⟨bG,eU⟩
    ·refine .inl ⟨cK _,s,by simp,?_⟩;cases bG;rfl
    ·refine .inr ⟨?_,eU⟩;simp only[c8];omega
def Vg{k:Nat}(bX:∀ id a,D0 id=some a->D (Nat.add id k)=some a){l:List MapEntry}(h:kv D0 es l):kv D (FQ k es) l:=by
 induction h with
 |nil=>exact .nil| cons aj af t aX=>exact .cons (vv bX _ aj) (vv bX _ af) aX
def MO{k:Nat}:∀ {l:List ai} {i:Nat} {v:ai},(kx k l)[i]?=some v->∃ o7,l[i]?=some o7/\v=fL k o7
 |[],i,v,h=>by simp[kx]at h
 |x::l,0,v,h=>by simp only[kx,List.getElem?_cons_zero,hr]at h;exact⟨x,rfl,h.symm⟩
 |x::l,i+1,v,h=>by simp only[kx,yE]at h;simpa using MO h
def Vh{k:Nat}(bX:∀ id a,D0 id=some a->D (Nat.add id k)=some a)(aZ:∀ x∈M,x∈M'){e:dm}{s:nS}(h:gV D0 E M a e)(al:yq e=some s):gV D E M' a (s.fc k):=by
 cases h with
 | @cells cs T c3 arr aD U aa ak aL be=>
  unfold yq at al;obtain⟨l,aI,aQ,bG⟩:=aO.vh cs c3 0 _ _ al;cases bG;obtain⟨cD,cH,cz⟩:=aO.p6 (kx k l) (.nil:aO ai) 0;show gV D E M' a (aO.p1 (kx k l) .nil 0 λcs=>dm.cells cs T l.length);rw[cH,aI];refine .cells arr aD (aZ _ U) aa (λi v hi aw=>?_) aL be;rcases cz i v aw with⟨_,h⟩ | ⟨_,h⟩;·obtain⟨o7,ax,rfl⟩:=MO (by simpa using h);have:=aQ i hi;rw[dd,ax]at this;obtain⟨x,f1,f2⟩:=ak i o7 hi this;exact⟨x,f1,vv bX _ f2⟩
  ·cases h
 |map l clock U aa=>cases al;exact .map l clock (aZ _ U) (Vg bX aa)| loop L U aa=>cases al| done L U aa ak=>cases al
def Vi(aA:bV Y.P Y.E)(bM:o6 Y.P)(gb:Y.P.follows .mixedOrders=true){jU:aU}{o7:ai}{L:List nS}(aD:oY ⟨Y.P,Y.E,λ_=>none,λ_ _ _=>none⟩ (gD ⟨Y.P,Y.E,λ_=>none,λ_ _ _=>none⟩ f) g args ⟨.nil,0⟩=some (o7,jU))(cN:readAll jU.t 0 jU.n=some L)(dM:∀ D us,a6 D args us->a6 (λ_=>none) args us){m m':aU}{v:ai}(h:FR o7 L m=some (v,m'))(hu:a6 D args us)(hm:bP Y D m I M) :
  Spec Y.P g us I M λr I' M'=>∃ aW,D.ext aW m.n/\ay aW v r/\bP Y aW m' I' M':=by
 have hR:qd ⟨Y.P,Y.E,λ_=>none,λ_ _ _=>none⟩:=λg vs m v m' h=>by cases h
 have Vj:bP ⟨Y.P,Y.E,λ_=>none,λ_ _ _=>none⟩ (λ_=>none) ⟨.nil,0⟩ I []:=⟨λid e a h aP=>(by cases aP),λid e2 e b2 a bl h U aP=>(by cases aP),λid a h=>(by cases h),λg cs h=>(by cases h)⟩;have an:=(reckon (Y:=⟨Y.P,Y.E,λ_=>none,λ_ _ _=>none⟩) aA bM hR gb aD (dM D us hu) Vj).frame (M:=M);refine Spec.mS an ?_;rintro r I' iD⟨M0,rfl,br,hle,D0,-,af,vw⟩;unfold FR at h;rw[EP,EP]at h;obtain⟨cD,U,aa⟩:=MN m.n L m.n m.t;rw[U]at h;cases h;obtain⟨aI,aQ⟩:=MM cN;let aW:a4:=λid=>if id<m.n then D id else D0 (id-m.n)
 have bX:∀ id a,D0 id=some a->aW (Nat.add id m.n)=some a:=λid a aN=>by show(if id+m.n<m.n then D (id+m.n)else D0 (id+m.n-m.n))=some a;rw[cd (by omega),Nat.add_sub_cancel,aN]
 have vV:D.le aW:=λid a aN=>by show(if id<m.n then D id else D0 (id-m.n))=some a;rw[ck (hm.fJ _ _ aN),aN]
 have lo:∀ id,id<m.n->aW id=D id:=λid hi=>ck hi;have cr:∀ id,m.n<=id->aW id=D0 (id-m.n):=λid hi=>cd (by omega);have src:∀ id e a,cD.get id=some e->aW id=some a->(m.n<=id/\∃ s cv,e=s.fc m.n/\jU.t.get (id-m.n)=some cv/\yq cv=some s/\D0 (id-m.n)=some a)\/(id<m.n/\m.t.get id=some e/\D id=some a):=λid e a he aN=>by
  rcases aa id e he with⟨cH,s,cz,eZ⟩ | ⟨cH,cz⟩;·obtain⟨cv,jd,D9⟩:=aQ _ _ cz;rw[dd]at jd;rw[cr _ cH]at aN;exact .inl ⟨cH,s,cv,eZ,jd,D9,aN⟩
  ·rcases x4 id m.n with a0 | eD
   ·rw[lo _ a0]at aN;exact .inr ⟨a0,cz,aN⟩
   ·rw[cr _ eD]at aN;have:=vw.fJ _ _ aN;omega
 refine⟨aW,λid hi=>lo id hi,vv bX _ af,⟨λid e a he aN=>?_,λid e2 e b2 a bl he y' aN th ag=>?_,λid a aN=>?_,hm.kt.mono hle⟩⟩
 ·rcases src id e a he aN with⟨cH,s,cv,rfl,cz,eZ,jd⟩ | ⟨cH,cz,eZ⟩
  ·exact Vh bX (λx ab=>vF _ ab) (vw.fc _ _ _ cz jd) eZ
  ·exact(hm.fc _ _ _ cz eZ).mono vV λx ab _=>List.mem_append_right _ ab
 ·rcases src id e a he aN with⟨cH,s,cv,rfl,cz,eZ,jd⟩ | ⟨cH,cz,eZ⟩
  ·rcases src e2 b2 bl y' th with⟨rm,bx,Vk,rfl,oP,yr,FT⟩ | ⟨rm,oP,yr⟩
   ·have:=vw.inj _ _ _ _ _ _ cz oP jd FT ag;omega
   ·obtain⟨x,ab,FU⟩:=vw.bF cz jd;obtain⟨y,aE,FV⟩:=hm.bF oP yr;exact(br x ab y aE (FU.trans (ag.trans FV.symm))).elim
  ·rcases src e2 b2 bl y' th with⟨rm,bx,Vk,rfl,oP,yr,FT⟩ | ⟨rm,oP,yr⟩
   ·obtain⟨x,ab,FU⟩:=vw.bF oP FT;obtain⟨y,aE,FV⟩:=hm.bF cz eZ;exact(br x ab y aE (FU.trans (ag.symm.trans FV.symm))).elim
   ·exact hm.inj _ _ _ _ _ _ cz oP eZ yr ag
 ·show id<m.n+L.length;rcases x4 id m.n with a0 | eD
  ·omega
  ·rw[cr _ eD]at aN;have:=vw.fJ _ _ aN;omega
open Go Go.Proofs
def Vl(k:Nat):liesAt Tryz.prog Tryz.prog.depth 174 ((k+1)*2/Tryz.prog.cellsOf 174) 0 174 1=true:=by
 have aa:Tryz.prog.cellsOf 174=2:=by kernel_rfl
 have ao:Tryz.prog.depth=(Tryz.prog.depth-1)+1:=by kernel_rfl
 have jM:sameLayout Tryz.prog Tryz.prog.depth 174 174=true:=by kernel_rfl
 have al:rowAt Tryz.prog (sameLayout Tryz.prog Tryz.prog.depth · 174) Tryz.prog.depth 174 (k+1) 0 1=true:=by
  generalize az:(sameLayout Tryz.prog Tryz.prog.depth · 174)=f;have qG:f 174=true:=by rw[<-az];exact jM
  rw[ao];unfold rowAt;simp only[aa,qG];simp
 rw[aa,Nat.mul_div_cancel _ (by decide:0<2)];rw[ao];unfold liesAt;rw[al];rfl
def Vm(pre post:List aC)(b:Nat)(v:Value)(k:Nat)(rest:List Value)(al:rest.length=2*k) :
  Spec Tryz.prog 152 [ptr b] I (pre++⟨b,.cells (.pointer none::v::rest).toArray 174 (0,0)⟩::post) λr I' M'=>r=.tuple #[]/\I'=I/\M'=pre++⟨b,.cells (bt (.pointer none::v::rest) 0 [ptr b]).toArray 174 (0,0)⟩::post:=by
 obtain⟨inf,z,hi,ec,_⟩:=(a8 174 _ rfl).inf;refine cB [] a8 Tryz.func152 rfl rfl rfl ?_;intro B aD;have hm:∀ {o:Obj},(⟨b,o⟩:aC)∈pre++⟨b,o⟩::post:=fun {o}=>c9.2 (.inr (.head _));have bW:(Value.pointer none::v::rest).toArray.size=(k+1)*2:=by simp[al];omega
 have au:liesAt Tryz.prog Tryz.prog.depth 174 ((Value.pointer none::v::rest).toArray.size/Tryz.prog.cellsOf 174) 0 174 1=true:=by rw[bW];exact Vl k
 refine ba.mk [.pointer none] (dk (cs:=.pointer none::v::rest) (k:=0) (n:=1) (T:=174) hm (by simp)) ?_;refine .other (a9.zq a8 rfl (by simp) rfl rfl rfl rfl ?_);refine a1.mk (λ_=>?_) (λh=>by cases h);refine a9.conv rfl (by simp) rfl (λw hw=>Lib.run_to_unsafe (t:=174) (e:=174) w ⟨b,0,none⟩ (by kernel_rfl) (by kernel_rfl) (j:=inf) (cells:=(Value.pointer none::v::rest).toArray.size) hi (by rw[ec];decide) (zt hw hm) (by rw[bW];show 0<_;omega)) ?_;refine aY.mk (pre++⟨b,.cells (.pointer none::v::rest).toArray 174 (0,0)⟩::post) [] _ (by simp) (Cw _) ?_;rintro v I' M' -⟨rfl,rfl,rfl⟩;refine a9.conv rfl (by simp) rfl (λw hw=>Lib.run_from_unsafe (u:=174) (e:=174) w ⟨b,0,none⟩ (by kernel_rfl) (by kernel_rfl) (j:=inf) (cells:=(Value.pointer none::v::rest).toArray.size) hi (zt hw (c9.2 (.inl hm))) au) ?_;refine df.mk pre post _ _ (hd _) rfl (by rw[bW];show 0+0+1<=(k+1)*2;omega) rfl ?_;exact⟨_,_,.refl,rfl,rfl,rfl⟩
def Vn{b:Nat}{T:Nat}(aZ:(⟨b,.cells arr T (0,0)⟩:aC)∈M)(aD:arr[0]?=some (ptr b)) :
  Spec Tryz.prog 152 [ptr b] I M λr I' M'=>r=.tuple #[]/\I'=I/\M'=M:=by
 refine cB [] a8 Tryz.func152 rfl rfl rfl ?_;intro B hE;have al:cx I M ((⟨b,0,none⟩:Addr).add 0) 1 [ptr b]:=by
  obtain⟨l⟩:=arr;cases l with
  |nil=>simp at aD| cons x l=>simp only[rR,List.getElem?_cons_zero,hr]at aD;subst aD;exact dk (cs:=ptr b::l) (k:=0) (n:=1) aZ (by simp)
 refine ba.mk [ptr b] al ?_;refine .other (a9.zq a8 rfl (by simp) rfl rfl rfl rfl ?_);refine a1.mk (λh=>by cases h) (λ_=>?_);refine ba.mk [ptr b] al ?_;refine .other (a9.Ip a8 rfl (by simp) rfl rfl rfl rfl rfl ?_);refine a1.mk (λh=>by cases h) (λ_=>?_);exact⟨_,_,.refl,rfl,rfl,rfl⟩
def Vo{m:aU}{id off:Nat}{cs:aO ai}{T c3:Nat}{pre post:List aC}(hm:bP Y D m I M)(aw:m.t.get id=some (.cells cs T c3))(aN:D id=some a)(ar:a.o=0)(cX:M=pre++⟨a.b,.cells arr T (0,0)⟩::post)(bW:a.o+c3<=arr.size)(aB:∀ i v,i<c3->cs.get i=some v->∃ x,arr[a.o+i]?=some x/\ay D v x)(aj:∀ i,Y.E T=some i->arr.size=a.o+a.c*i.size)(gb:a.c<=maxLen)
  {l:List ai} {vs:List Value} (au:a6 D l vs) {K:aU->Option R} {r:R} (h:p4 m (.p id off) l K=some r) :
  ∃ m',K m'=some r/\m'.n=m.n/\off+vs.length<=arr.size/\bP Y D m' I (pre++⟨a.b,.cells (bt arr.toList off vs).toArray T (0,0)⟩::post):=by
 unfold p4 at h;simp only[aw]at h;cases ag:(Nat.ble (Nat.add off l.length) c3&&l.all ai.one)with
 |false=>rw[ag]at h;cases h
 |true=>
  rw[ag]at h;simp only[bn]at h;rw[bs]at ag;have rB:off+l.length<=c3:=bk ag.1;obtain⟨cs',U,aa⟩:=aO.p6 l cs off;rw[U]at h;obtain⟨cD,ak,aL⟩:=aO.jn (some (dm.cells cs' T c3)) m.t id;rw[ak]at h;have hlen:=au.len;have fy:off+vs.length<=arr.size:=by omega
  refine⟨_,h,rfl,fy,?_⟩;have ej:∀ x∈M,x.num≠a.b->x∈pre++⟨a.b,.cells (bt arr.toList off vs).toArray T (0,0)⟩::post:=λx ab aF=>by
   rw[cX]at ab;rcases c9.1 ab with ab | ab;·exact c9.2 (.inl ab)
   ·rcases cU.1 ab with rfl | ab
    ·exact(aF rfl).elim
    ·exact c9.2 (.inr (iO _ ab))
  refine hm.step (λi e hi=>(aL i e hi).imp (λq=>⟨q.1,jo q.2⟩) λq=>q) aN (a4.le_refl D) (λ_ _=>rfl) hm.fJ (λ_ _ h=>h) (λi e bl br hi kw x ab aF=>ej x ab ?_) ?_ ?_;·rw[aF];exact λag=>br (hm.inj _ _ _ _ _ _ hi aw kw aN ag)
  ·have x7:(bt arr.toList off vs).length=arr.size:=by rw[E8 (by simpa using fy)];simp
   refine .cells (bt arr.toList off vs).toArray ar (by simp) (by simp[x7];exact bW) (λi v hi x8=>?_) (λi hi=>by simp[x7];exact aj i hi) gb;rw[ar,dd];simp only[rR];rw[Lz (by simpa using fy)];rcases aa i v x8 with⟨aI,aQ⟩ | ⟨aI,aQ⟩;·have a0:=(gf.1 aQ).1;rw[ck ⟨aI,by omega⟩];exact au.get aQ
   ·rw[cd (by omega)];have:=aB i v hi aQ;rw[ar,dd]at this;simpa using this
  ·intro i e bl br hi kw ag;exact br (hm.inj _ _ _ _ _ _ hi aw kw aN ag)
noncomputable def FW(m:aU)(vs:List ai):Option (ai×aU):=match vs with
 |[.p id 0]=>(match m.t.get id with
  |some (.cells cs T c3)=>bf (Nat.beq T 174&&Nat.ble 2 c3) (match cs.get 0 with
   |some .pn=>p4 m (.p id 0) [.p id 0] λm=>some (.t [],m)
   |some (.p e2 0)=>bf (Nat.beq id e2) (some (.t [],m)) none| _=>none) none
  |_=>none)
 |_=>none
def Vp(qX:Y.P=Tryz.prog)(Vq:Y.E=su){m m':aU}{vs:List ai}{v:ai}(h:FW m vs=some (v,m'))(hu:a6 D vs us)(hm:bP Y D m I M) :
  Spec Y.P 152 us I M λr I' M'=>∃ aW,D.ext aW m.n/\ay aW v r/\bP Y aW m' I' M':=by
 unfold FW at h;split at h
 ·rename_i id;obtain⟨x,xs,ab,aF,rfl⟩:=hu.gv;obtain rfl:=aF.iv;obtain⟨a,aN,rfl⟩:=ab.ptr;split at h
  ·rename_i cs T c3 aw;obtain⟨U,aR⟩:=dR h;clear h;rw[bs]at U;obtain⟨bJ,rB⟩:=U;obtain rfl:=cb bJ;have rB:=bk rB;obtain⟨arr,ar,aZ,au,aB,aj,gb⟩:=hm.fc _ _ _ aw aN;have bW:=aj _ (by rw[Vq];rfl);have bW:arr.size=a.c*2:=by rw[bW,ar,dd]
   have aK:Value.pointer (some ⟨a.b,a.o+0,none⟩)=ptr a.b:=by rw[ar];rfl
   split at aR
   ·rename_i ue;obtain⟨n9,dF,FX⟩:=aB 0 _ (by omega) ue;obtain⟨pre,post,cX⟩:=nL aZ;obtain⟨b3,aa,ak,aL,be⟩:=Vo hm aw aN ar cX au aB aj gb (l:=[.p id 0]) (vs:=[ptr a.b]) (by simp only[a6,ay];exact⟨_,_,⟨a,aN,aK.symm⟩,rfl,rfl⟩) aR;cases aa;rw[aK,qX,cX];obtain⟨l⟩:=arr;have Vr:n9=.pointer none:=by simpa only[ay]using FX
    rw[ar]at dF
    match l,dF,bW with
    |[],dF,_=>simp at dF| [_],_,bW=>simp at bW;omega
    |y::w::rest,dF,bW=>
     have aE:y=.pointer none:=by simpa[Vr]using dF
     subst aE;have mC:rest.length=2*(a.c-1):=by simp at bW;omega
     refine Spec.mS (Vm pre post a.b w (a.c-1) rest mC) ?_;rintro r I' M'⟨rfl,rfl,rfl⟩;exact⟨D,a4.jr,by simp only[ay,a6];exact⟨[],rfl,rfl⟩,be⟩
   ·rename_i e2 ue;obtain⟨aa,Vs⟩:=dR aR;obtain rfl:=cb aa;cases Vs;obtain⟨n9,dF,FX⟩:=aB 0 _ (by omega) ue;obtain⟨bl,th,rfl⟩:=FX.ptr;rw[aN]at th;cases th;rw[aK]at dF |-;rw[qX];refine Spec.mS (Vn aZ (by rw[<-dF,ar])) ?_;rintro r I' M'⟨rfl,rfl,rfl⟩;exact⟨D,a4.jr,by simp only[ay,a6];exact⟨[],rfl,rfl⟩,hm⟩
   ·cases aR
  ·cases h
 ·cases h
end Go.V
