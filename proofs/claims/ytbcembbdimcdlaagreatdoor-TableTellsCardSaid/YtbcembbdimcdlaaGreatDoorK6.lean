/- Part 6 of what the proofs of this seat share: the executor, data in memory, walks.
-/
import Derived.Test.YtbcembbdimcdlaaGreatDoorK5
import Derived.Test.YtbcembbdimcdlaaGreatDoorK3
import Derived.Test.YtbcembbdimcdlaaGreatDoorK4
set_option linter.all false
set_option maxHeartbeats 8000000
set_option maxRecDepth 100000
namespace Go.V
open Go
def nX:=@List.mem_cons_of_mem
def tB:=@List.append_of_mem
def xM:=@List.length_reverse
def zp:=@Nat.sub_zero
def zq:=@Nat.add_eq
def Pe:=@List.reverse_append
def Pf:=@List.Sublist.append
def WQ:=@List.getElem_append_right
def DB:=@Nat.mul_eq
def DC:=@Nat.sub_eq
variable{α:Type}{op:BinOp}{v:al}{dn ut:Option dU}{K:Value->Prop}{O:Prop}{P:Program}{t e j sz off i clock cg b' m c' size lo to:Nat}{x y qB os:Operand}{u w us lY:Value}{aJ l0:dU}{cs xs vs tC bV:List Value}{E:Env}{r:Option Nat}{args:Array Operand}{ts:Array Nat}{D M post:List aE}{e9:be fW}{cd:fW}{d mC:TypeDesc}{a0:Option Addr}{ad sa:Addr}{I J I':aH}{ds:List bm}{L parts:List (Nat×Nat)}{Bo DD DE DF:aE}{hi:Int}
abbrev dR(X:cW)(G:GT)(pr:lP):gE:=⟨X.P,X.E,G,pr⟩
section
variable{X:cW}{G:GT}{pr:lP}{D:bH}{m:bo}{F:Fr}{aj:be al}{C:dM}{I:aH}{M:List aE}{V:dD->Prop}{O:Prop}
def oK{a b:α}(h:some a=some b):a=b:=by cases h;rfl
def agj{k c7:IntKind}{a b:Int}(h:Ow op k c7 a b=some v)(af:∀ u,aU D v u->K u):lz op dn (.val (.int k a)) (.val (.int c7 b)) K O:=by
 have mk:∀ {q:al} {u:Value},some q=some v->aU D q u->K u:=λe hu=>af _ (oK e ▸ hu);unfold Ow at h;split at h
 ·split at h
  ·rename_i j;refine⟨j,rfl,⟨_,rfl,mk h ?_⟩⟩;simp only[aU];rw[zl,agd,ke,WK]
  ·cases h
 ·split at h
  ·rename_i j;refine⟨j,rfl,mk h ?_⟩;simp only[aU];rw[age,ke,WK]
  ·cases h
 all_goals obtain⟨az,h⟩:=gF h
 all_goals simp only[lz,az,bg]
 ·exact⟨_,rfl,mk h (by simp only[aU];rw[zl,af8])⟩
 ·exact⟨_,rfl,mk h (by simp only[aU];rw[zl,af9])⟩
 ·exact⟨_,rfl,mk h (by simp only[aU];rw[zl,aga])⟩
 ·obtain⟨aq,h⟩:=zj h;refine⟨λe=>?_,_,rfl,mk h (by simp only[aU];rw[zl,agb])⟩;rw[zk,e]at aq;simp at aq
 ·obtain⟨aq,h⟩:=zj h;refine⟨λe=>?_,mk h (by simp only[aU];rw[agc])⟩;rw[zk,e]at aq;simp at aq
 ·obtain⟨r,ao,h⟩:=cL h;rw[J0 ao];exact mk h (by simp only[aU])
 ·obtain⟨r,ao,h⟩:=cL h;rw[J0 ao];exact mk h (by simp only[aU])
 ·obtain⟨r,ao,h⟩:=cL h;rw[J0 ao];exact mk h (by simp only[aU])
 ·obtain⟨r,ao,h⟩:=cL h;rw[J0 ao];exact mk h (by simp only[aU])
 ·obtain⟨r,ao,h⟩:=cL h;rw[af7]at ao;have ai:v=.b r:=(oK h).symm;subst ai;have kJ:K (.bool r):=af _ (by simp only[aU]);cases op<;>first
   |contradiction|(rw[ao];exact kJ)
def Pg(b:Bool):b7 b false true=!b:=by cases b<;>rfl
def agk{a b:List UInt8}(h:Ox op a b=some v)(af:∀ u,aU D v u->K u) :
  lz op dn (.val (.string ⟨a.toArray⟩)) (.val (.string ⟨b.toArray⟩)) K (cC P op t x y (.val (.string ⟨a.toArray⟩)) (.val (.string ⟨b.toArray⟩)) K O):=by
 unfold Ox at h;split at h
 ·cases h;refine af _ ?_;simp only[aU];rw[J8,Bm]
 ·cases h;refine af _ ?_;simp only[aU];rw[J8,Bm,Pg]
 ·obtain⟨aw,h⟩:=gF h;cases h;have pW:=bN aw;refine cC.concat (by simpa[ByteArray.size]using pW) (af _ ?_);simp only[aU];congr 1
 ·cases h
def agl{a b:Bool}(h:Oy op dn a b=some v)(af:∀ u,aU D v u->K u):lz op dn (.val (.bool a)) (.val (.bool b)) K O:=by
 unfold Oy at h;split at h
 ·split at h
  ·cases h;exact af _ (by simp only[aU])
  ·cases h;exact af _ (by simp only[aU])
  ·cases h
 ·cases h
def agm{x:al}{b:Bool}(h:OA x=some b)(hu:aU D x u):∃ a n c,u=.slice a n c/\b=a.isNone:=by
 cases x<;>simp only[OA,lx,reduceCtorEq]at h<;>subst h<;>simp only[aU]at hu
 ·exact⟨_,_,_,hu,rfl⟩
 ·obtain⟨a,-,hu⟩:=hu;exact⟨_,_,_,hu,rfl⟩
 ·obtain⟨a,-,-,hu⟩:=hu;exact⟨_,_,_,hu,rfl⟩
 ·exact⟨_,_,_,hu,rfl⟩
 ·obtain⟨a,c,hu⟩:=hu;exact⟨_,_,_,hu,rfl⟩
def agn{x:al}{b:Bool}(h:OB x=some b)(hu:aU D x u):∃ p,u=.pointer p/\b=p.isNone:=by
 cases x<;>simp only[OB,lx,reduceCtorEq]at h<;>subst h<;>simp only[aU]at hu
 ·exact⟨_,hu,rfl⟩
 ·obtain⟨a,-,hu⟩:=hu;exact⟨_,hu,rfl⟩
 ·exact⟨_,hu,rfl⟩
def ago(h:P.underlying t=some (.slice e))(a:Option Addr)(n c:Nat)(w:World):(Op.equal t (.slice a n c) (.slice none 0 0)).run P w=.ok a.isNone w:=by
 have key:∀ d,(Op.equalIn (d+1) t (.slice a n c) (.slice none 0 0)).run P w=.ok a.isNone w:=λd=>by cases a<;>simp[Op.equalIn,run_underlying h]
 exact key 9999
def agp(h:P.underlying t=some (.pointer e))(p:Option Addr)(w:World):(Op.equal t (.pointer p) (.pointer none)).run P w=.ok p.isNone w:=by
 have key:∀ d,(Op.equalIn (d+1) t (.pointer p) (.pointer none)).run P w=.ok p.isNone w:=λd=>by cases p<;>simp[Op.equalIn,run_underlying h]
 exact key 9999
def WR{b:Bool}{p q:Value}(aB:∀ w,op=.eql\/op=.neq->(eqGuard op t x y p q).run P w=.ok () w)(he:∀ w,(Op.equal t p q).run P w=.ok b w)(ag:∀ w,(binOp .eql t p q).run P w=.ok (.bool b) w)(an:∀ w,(binOp .neq t p q).run P w=.ok (.bool (!b)) w)(h:JJ op b=some v)(af:∀ u,aU D v u->K u):cC P op t x y (.val p) (.val q) K O:=by
 unfold JJ at h;split at h
 ·cases h;refine .mk p q (.bool b) rfl rfl (λw=>?_) (af _ (by simp only[aU]));simp only[ca,aB w (.inl rfl),bR,ag w]
 ·cases h;refine .mk p q (.bool (!b)) rfl rfl (λw=>?_) (af _ (by simp only[aU]));simp only[ca,aB w (.inr rfl),bR,an w]
 ·cases h
def agq(aP:cY X.P X.E){x y:al}{agr:Operand}(h:OC X.P X.E op t x y=some v)(ab:aU D x u)(aG:aU D y w)(af:∀ u,aU D v u->K u) :
  lz op (X.E t) (.val u) (.val w) K (cC X.P op t qB agr (.val u) (.val w) K O):=by
 unfold OC at h;split at h
 ·rw[ab.int,aG.int];exact agj h af
 ·rw[ab.str,aG.str];exact agk h af
 ·rw[ab.bool,aG.bool];exact agl h af
 ·obtain⟨us,U,rfl⟩:=ab.agg;obtain⟨ws,aa,rfl⟩:=aG.agg;exact WO aP h U aa af
 ·obtain⟨i,hi,h⟩:=cL h;split at h
  ·rename_i e nw;obtain⟨b,U,h⟩:=cL h;obtain⟨a,n,c,rfl,rfl⟩:=agm U ab;simp only[aU]at aG;subst aG;obtain⟨d,fy,eX⟩:=(aP _ _ hi).fk;have aa:d=.slice e:=by rw[nw]at eX;cases d<;>simp_all[fj]
   subst aa;have he:=ago fy a n c;exact WR (λw ar=>by rcases ar with rfl | rfl<;>(unfold eqGuard;rfl)) he (λw=>by simp only[binOp];simp[he w]) (λw=>by simp only[binOp];simp[he w]) h af
  ·cases h
 ·obtain⟨i,hi,h⟩:=cL h;split at h
  ·rename_i e nw;obtain⟨b,U,h⟩:=cL h;obtain⟨p,rfl,rfl⟩:=agn U ab;simp only[aU]at aG;subst aG;obtain⟨d,fy,eX⟩:=(aP _ _ hi).fk;have aa:d=.pointer e:=by rw[nw]at eX;cases d<;>simp_all[fj]
   subst aa;have he:=agp fy p;exact WR (λw ar=>by rcases ar with rfl | rfl<;>(unfold eqGuard;rfl)) he (λw=>by simp only[binOp];simp[he w]) (λw=>by simp only[binOp];simp[he w]) h af
  ·cases h
 ·cases h
variable(aP:cY X.P X.E)(hm:df (dR X G pr) D m I M)
theorem DG{n:Nat}(h:v.nat=some n):∃ k,v=.i k (.ofNat n):=by
 unfold al.nat at h;split at h
 ·cases h;exact⟨_,rfl⟩
 ·cases h
theorem WS{x:al}{n:Nat}(h:Gp x n=some v)(ab:aU D x u):∃ a,u=.pointer (some a)/\a.spot=none/\aU D v (.pointer (some (a.add n))):=by
 unfold Gp at h;split at h
 ·cases h;obtain⟨a,ax,rfl⟩:=ab.ptr;refine⟨_,rfl,rfl,?_⟩;rw[ei _ rfl];simp only[aU];exact⟨a,ax,by simp only[zq,pR]⟩
 ·cases h;refine⟨_,ab.qy,rfl,?_⟩;rw[ei _ rfl];simp only[aU];rfl
 ·cases h
theorem ags{x:al}(h:JK x j sz=some v)(ab:aU D x u):∃ a n c,u=.slice (some a) n c/\j<n/\aU D v (.pointer (some (a.add (j*sz)))):=by
 unfold JK at h;split at h
 ·cases ag:Nat.blt j _ with
  |false=>rw[ag]at h;cases h| true=>rw[ag]at h;cases h;obtain⟨a,ax,rfl⟩:=ab.sC;refine⟨_,_,_,rfl,bN ag,?_⟩;rw[ei _ rfl];simp only[aU];exact⟨a,ax,by simp only[zq,DB,pR]⟩
 ·cases ag:Nat.blt j _ with
  |false=>rw[ag]at h;cases h| true=>rw[ag]at h;cases h;obtain⟨a,ax,_,rfl⟩:=ab.uT;refine⟨_,_,_,rfl,bN ag,?_⟩;rw[ei _ rfl];simp only[aU];exact⟨a,ax,by simp only[zq,DB,pR]⟩
 ·cases ag:Nat.blt j _ with
  |false=>rw[ag]at h;cases h| true=>rw[ag]at h;cases h;refine⟨_,_,_,ab.O',bN ag,?_⟩;rw[ei _ rfl];simp only[aU];rfl
 ·cases h
theorem WT{cs:List al}{us:List Value}(h:JM aJ cs off=some v)(aN:bM D cs us) :
  off+aJ.size<=us.length/\aU D v (pack aJ.bK.agg ((us.drop off).take aJ.size)):=by
 unfold JM at h;obtain⟨aq,h⟩:=zj h;obtain⟨l,U,aa⟩:=cL h;have mX:aJ.size≠0:=λe=>by rw[e]at aq;cases aq
 obtain⟨rfl,aw⟩:=WL U;rw[J2]at aa aw;refine⟨?_,J6 aa ((aN.drop off).take _)⟩;have:=aN.len;simp at aw;omega
theorem WU{g9:dU}(h:JL E t i=some (off,g9)):∃ a b z cb mr,E t=some ⟨a,b,z,.struct cb⟩/\cb[i]?=some (mr,off)/\E mr=some g9:=by
 unfold JL at h;split at h
 ·rename_i a b z cb au;split at h
  ·rename_i mr o aF;rw[zn]at aF;split at h
   ·rename_i f GC;cases h;exact⟨_,_,_,_,mr,au,aF,GC⟩
   ·cases h
  ·cases h
 ·cases h
theorem agt(h:OF E t=some (r,aJ)):(∃ a b z e,E t=some ⟨a,b,z,.slice e⟩/\E e=some aJ/\r=none)\/∃ a b z n e,E t=some ⟨a,b,z,.array n e⟩/\E e=some aJ/\r=some n:=by
 unfold OF at h;split at h
 ·rename_i a b z e au;split at h
  ·cases h;exact .inl ⟨_,_,_,_,au,by assumption,rfl⟩
  ·cases h
 ·rename_i a b z n e au;split at h
  ·cases h;exact .inr ⟨_,_,_,_,_,au,by assumption,rfl⟩
  ·cases h
 ·cases h
theorem agu{x i:al}(h:Gq X.E t (some x) (some i)=some v)(ab:aU D x u)(hi:aU D i w){ρ:Operand->dD}{gj:Operand}(Ph:dB ρ qB=.val u)(hT:dB ρ gj=.val w)
  (k:∀ x,gd D x v->V x):cD X (.index t qB gj) ρ C I M V O:=by
 unfold Gq at h;split at h
 ·rename_i l fX au U aa;cases U;cases aa;obtain⟨j,ak,h⟩:=cL h;obtain⟨fD,rfl⟩:=DG ak;have fg:OG l j=some v:=h;unfold OG at fg;obtain⟨b,ag,ew⟩:=cL fg;cases ew;rw[zn]at ag;rw[ab.str]at Ph;rw[hi.int]at hT;have aO:=(iY.1 ag).1;simp only[cD,au,Ph,hT];refine⟨j,rfl,by simpa[ByteArray.size]using aO,k _ (.val ?_)⟩;simp only[aU];have:(⟨l.toArray⟩:ByteArray)[j]'(by simpa[ByteArray.size]using aO)=b:=by have:=(iY.1 ag).2;show l.toArray[j]'_=b;simpa using this
  rw[this];rfl
 ·rename_i n e cs fX au U aa;cases U;cases aa;obtain⟨aJ,he,h⟩:=cL h;obtain⟨j,ak,h⟩:=cL h;obtain⟨fD,rfl⟩:=DG ak;obtain⟨us,fu,rfl⟩:=ab.agg;unfold Wc at h;obtain⟨ag,h⟩:=gF h;rw[cA]at ag;obtain⟨ae,aR⟩:=WT h fu;rw[hi.int]at hT;simp only[cD,au,Ph,hT,he];have cr:Nat.beq (n*aJ.size) us.toArray.size=true:=by have bn:=cM ag.1;rw[qY,fu.len,<-bn];exact qS _
  rw[cr];simp only[bg];exact⟨j,rfl,bN ag.2,k _ (.val aR)⟩
 ·cases h
theorem agv{x:al}{l:Nat}{h:Option Nat}(ap:OD x sz l h=some v)(ab:aU D x u):∃ a n c,u=.slice a n c/\l<=h.getD n/\h.getD n<=c/\(h=none->l<=n) /\
  aU D v (.slice (if c=l then a else a.map (·.add (l*sz))) (h.getD n-l) (c-l)):=by
 unfold OD at ap;split at ap
 ·cases ag:(Nat.beq l 0&&Nat.beq (h.getD 0) 0)with
  |false=>rw[ag]at ap;cases ap| true=>rw[ag]at ap;cases ap;rw[cA]at ag;have U:=cM ag.1;have aa:=cM ag.2;subst U;refine⟨none,0,0,ab.Bn,by omega,by omega,λ_=>by omega,?_⟩;rw[aa];simp[aU]
 ·rename_i id off n c;obtain⟨a,ax,rfl⟩:=ab.sC;simp only at ap;cases ag:(Nat.ble l (h.getD n)&&Nat.ble (h.getD n) c)with
  |false=>rw[ag]at ap;cases ap
  |true=>
   rw[ag]at ap;simp only[bg]at ap;rw[cA]at ag;have U:=bN ag.1;have aa:=bN ag.2;refine⟨_,n,c,rfl,U,aa,λe=>by subst e;exact U,?_⟩;rw[O8]at ap;by_cases e:c=l;·subst e;simp only[FM,bg]at ap;cases ap;simp only[sQ,aU];exact⟨a,ax,by simp only[DC,wb]⟩
   ·simp only[e,decide_false,bd]at ap;cases ap;simp only[e,kO,aU,ly];refine⟨a,ax,?_⟩;rw[ei _ rfl];simp only[zq,DB,DC,pR]
 ·rename_i id off e n;obtain⟨a,ax,bk,rfl⟩:=ab.uT;simp only at ap;cases ag:(Nat.ble l (h.getD n)&&Nat.ble (h.getD n) n)with
  |false=>rw[ag]at ap;cases ap
  |true=>
   rw[ag]at ap;simp only[bg]at ap;rw[cA]at ag;have U:=bN ag.1;have aa:=bN ag.2;refine⟨_,n,a.c-e,rfl,U,by omega,λe=>by subst e;exact U,?_⟩;cases aN:(Nat.beq l 0||Nat.blt l n)with
   |true=>
    rw[aN]at ap;simp only[bg]at ap;cases ap;rw[r4]at aN;simp only[aU];refine⟨a,ax,by simp only[zq,DC];omega,?_⟩;have ae:a.c-e-l=a.c-(e+l):=by omega
    by_cases aq:l=0
    ·subst aq;simp only[EZ,zp,ly,zq,DB,DC,rW];split
     ·rfl
     ·rw[ei _ rfl];simp
    ·have aR:l<n:=by
      rcases aN with aN | aN;·exact absurd (cM aN) aq
      ·exact bN aN
     rw[cG (by omega)];simp only[ly];rw[ei _ rfl];simp only[zq,DB,DC,pR,ae]
   |false=>
    rw[aN]at ap;simp only[bd]at ap;cases ap;rw[nC]at aN;have aR:¬ l<n:=λaO=>by have:=AR (show l.succ<=n from aO);rw[show Nat.blt l n=Nat.ble l.succ n from rfl,this]at aN;cases aN.2
    have bn:h.getD n-l=0:=by omega
    simp only[aU,bn];split;·exact⟨_,_,rfl⟩
    ·exact⟨_,_,rfl⟩
 ·cases ap
end
section
variable{X:cW}{G:GT}{pr:lP}{D:bH}{m:bo}{F:Fr}{aj:be al}{C:dM}{I:aH}{M:List aE}{V:dD->Prop}{O:Prop}
def agw(c:Bool)(a b:Value):HR c (.val a) (.val b)=.val (bif c then a else b):=by cases a<;>cases b<;>cases c<;>rfl
def WV{o:Option Operand}{xs:List Operand}(H:iV D F aj xs)(ab:∀ y,o=some y->y∈xs)(h:Bg (o.map (dj aj))=some r) :
  (o.map (dB (dk F))=none/\r=none)\/∃ k n,o.map (dB (dk F))=some (.val (.int k (Int.ofNat n)))/\r=some n:=by
 cases o with
 |none=>simp[Bg]at h;exact .inl ⟨rfl,h.symm⟩
 |some y=>
  simp only[ly,Bg]at h;cases ai:dj aj y with
  |none=>rw[ai]at h;cases h
  |some v=>
   rw[ai]at h;simp only at h;split at h;·rename_i n an;cases h;obtain⟨k,rfl⟩:=DG an;obtain⟨u,hu,ao⟩:=H.bw (ab y rfl) ai;rw[ao.int]at hu;exact .inr ⟨k,n,by simp only[ly];exact congrArg some hu,rfl⟩
   ·cases h
def Pj(l:List UInt8)(lo hi:Nat):(⟨(OE l lo hi).toArray⟩:ByteArray)=(⟨l.toArray⟩:ByteArray).extract lo hi:=by apply qP;apply gG;unfold OE;rw[J2];simp[Cc,List.extract_eq_take_drop]
def agx{n:Nat}(h:wj v=some n)(ai:aU D v u):∃ a c,u=.slice a n c:=by
 unfold wj at h;split at h
 ·cases h;exact⟨_,_,ai.Bn⟩
 ·cases h;obtain⟨a,c,rfl⟩:=ai.J3;exact⟨_,_,rfl⟩
 ·cases h;obtain⟨a,_,rfl⟩:=ai.sC;exact⟨_,_,rfl⟩
 ·cases h;obtain⟨a,_,_,rfl⟩:=ai.uT;exact⟨_,_,rfl⟩
 ·cases h;exact⟨_,_,ai.O'⟩
 ·cases h
def agy(aP:cY X.P X.E){b:Builtin}{ts:Array TypeId}(h:OJ X.E b ts.toList (nW aj args.toList)=some v)(H:iV D F aj args.toList)(k:∀ x,gd D x v->V x) :
  cD X (.call { callee:=.builtin b,args:=args,argTypes:=ts }) (dk F) C I M V O:=by
 unfold OJ at h;split at h
 ·
  unfold Wh at h;split at h
  ·rename_i t w au aw;obtain⟨us,aC,aV⟩:=H.mq (λ_ h=>h) aw;obtain⟨u,xs,aX,bq,rfl⟩:=aV.kf;have:=bq.nm;subst this;have eb:jG (dk F) args.toList=some [u]:=aC;simp only[cD,au,eb];split at h
   ·rename_i a b z e np oa;unfold JN at h;obtain⟨n,an,h⟩:=cL h;have ew:some (al.i .i64 (.ofNat n))=some v:=h;cases ew;obtain⟨bX,c,rfl⟩:=agx an aX;simp only[oa];exact k _ (.val (by simp only[aU];rfl))
   ·rename_i a b z l oa;cases h;rw[aX.str];simp only[oa];refine k _ (.val ?_);simp only[aU];simp[ByteArray.size]
   ·rename_i a b z n e np oa;cases h;cases u<;>(simp only[oa];exact k _ (.val (by simp only[aU];rfl)))
   ·cases h
  ·cases h
 ·unfold Wi at h;split at h
  ·rename_i db a cR b aw;obtain⟨us,aC,aV⟩:=H.mq (λ_ h=>h) aw;obtain⟨u,xs,aX,bq,rfl⟩:=aV.kf;obtain⟨w,ic,eK,mY,rfl⟩:=bq.kf;have:=mY.nm;subst this;have eb:jG (dk F) args.toList=some [u,w]:=aC;rw[aX.int,eK.int]at eb;simp only[cD,eb];cases h;refine k _ (.val ?_);simp only[aU];rw[ke,JZ];by_cases j9:a<=b
   ·simp[j9];omega
   ·simp[j9];omega
  ·cases h
 ·unfold Wj at h;split at h
  ·rename_i db a cR b aw;obtain⟨us,aC,aV⟩:=H.mq (λ_ h=>h) aw;obtain⟨u,xs,aX,bq,rfl⟩:=aV.kf;obtain⟨w,ic,eK,mY,rfl⟩:=bq.kf;have:=mY.nm;subst this;have eb:jG (dk F) args.toList=some [u,w]:=aC;rw[aX.int,eK.int]at eb;simp only[cD,eb];cases h;refine k _ (.val ?_);simp only[aU];rw[ke,JZ];by_cases j9:a<=b
   ·simp[j9];omega
   ·simp[j9];omega
  ·cases h
 ·unfold Wk at h;split at h
  ·rename_i t id off n c au aw;split at h
   ·rename_i a b z e oa;cases h;obtain⟨us,aC,aV⟩:=H.mq (λ_ h=>h) aw;obtain⟨u,xs,aX,bq,rfl⟩:=aV.kf;have:=bq.nm;subst this;obtain⟨bX,ax,rfl⟩:=aX.sC;have eb:jG (dk F) args.toList=some [_]:=aC;simp only[cD,au,eb,oa];exact k _ (.val (by simp only[aU];rfl))
   ·cases h
  ·cases h
 ·unfold Wl at h;split at h
  ·rename_i aw;cases h;obtain⟨us,aC,aV⟩:=H.mq (λ_ h=>h) aw;obtain⟨u,xs,aX,bq,rfl⟩:=aV.kf;have:=bq.nm;subst this;rw[aX.Bn]at aC;have eb:jG (dk F) args.toList=some [_]:=aC;simp only[cD,eb];exact k _ (.val (by simp only[aU]))
  ·rename_i id off n c aw;obtain⟨aq,h⟩:=zj h;cases h;obtain⟨us,aC,aV⟩:=H.mq (λ_ h=>h) aw;obtain⟨u,xs,aX,bq,rfl⟩:=aV.kf;have:=bq.nm;subst this;obtain⟨bX,ax,rfl⟩:=aX.sC;have eb:jG (dk F) args.toList=some [_]:=aC;simp only[cD,eb];refine⟨λe=>?_,k _ (.val ?_)⟩
   ·have:c=0:=by omega
    subst this;cases aq
   ·simp only[aU];exact⟨bX,ax,rfl⟩
  ·rename_i id off e n aw;obtain⟨aq,h⟩:=zj h;cases h;obtain⟨us,aC,aV⟩:=H.mq (λ_ h=>h) aw;obtain⟨u,xs,aX,bq,rfl⟩:=aV.kf;have:=bq.nm;subst this;obtain⟨bX,ax,bk,rfl⟩:=aX.uT;have eb:jG (dk F) args.toList=some [_]:=aC;simp only[cD,eb];refine⟨λa4=>?_,k _ (.val ?_)⟩
   ·have:n=0:=by omega
    subst this;cases aq
   ·simp only[aU];exact⟨bX,ax,rfl⟩
  ·cases h
 ·cases h
def agz(aP:cY X.P X.E){op:Op}(h:OK X.P X.E G m.t op aj=some v)(H:iV D F aj op.operands.toList)(hm:df (dR X G pr) D m I M)(k:∀ x,gd D x v->V x):cD X op (dk F) C I M V O:=by
 unfold OK at h;split at h
 ·
  exact k _ (H _ (by simp[Op.operands]) _ h)
 ·exact k _ (H _ (by simp[Op.operands]) _ h)
 ·
  rename_i c a b;unfold V5 at h;split at h
  ·rename_i q u w U aa ae;cases h;have aN:=H c (by simp[Op.operands]) _ U;have ax:=H a (by simp[Op.operands]) _ aa;have ag:=H b (by simp[Op.operands]) _ ae;simp only[cD];rcases aN with⟨aoa,Ka,aN⟩ | ⟨ft,a4,Ka⟩
   ·rw[aN.bool]at Ka;simp only[Ka];obtain⟨Pk,pw,agA⟩:=ax.dB;obtain⟨Gc,Ge,cS⟩:=ag.dB;have agB:dB (dk F) a=.val Pk:=pw;have agC:dB (dk F) b=.val Gc:=Ge;rw[agB,agC];refine k _ (.inl ⟨bif q then Pk else Gc,?_,?_⟩)
    ·exact agw q Pk Gc
    ·cases q
     ·exact cS
     ·exact agA
   ·cases a4;simp only[Ka];cases q
    ·exact k _ ag
    ·exact k _ ax
  ·cases h
 ·
  rename_i aob t x;unfold V6 at h;split at h
  ·rename_i b U;cases h;have ab:=H x (by simp[Op.operands]) _ U;simp only[cD];rcases ab with⟨u,e,hu⟩ | ⟨q,aC,e⟩
   ·rw[hu.bool]at e;simp only[e];exact k _ (.val (by simp only[aU];rw[Pg]))
   ·cases aC;simp only[e];exact k _ (.inr ⟨!b,by rw[Pg],rfl⟩)
  ·rename_i fD n U;cases h;have ab:=H x (by simp[Op.operands]) _ U;obtain⟨u,e,hu⟩:=ab.uU (by simp);rw[hu.int]at e;simp only[cD,e];exact⟨_,rfl,k _ (.val (by simp only[aU];rw[zl]))⟩
  ·cases h
 ·
  rename_i aoc t x y e9;unfold V7 at h;obtain⟨a,U,h⟩:=cL h;obtain⟨b,aa,h⟩:=cL h;obtain⟨u,aC,aV⟩:=H.bw (x:=x) (by simp[Op.operands]) U;obtain⟨w,ay,aX⟩:=H.bw (x:=y) (by simp[Op.operands]) aa;have eb:dB (dk F) x=.val u:=aC;have eF:dB (dk F) y=.val w:=ay;simp only[cD,eb,eF];exact agq aP h aV aX λr ao=>k _ (.val ao)
 ·
  rename_i t x;unfold V8 at h;obtain⟨i,hi,h⟩:=cL h;obtain⟨a,U,h⟩:=cL h;have ab:=H x (by simp[Op.operands]) _ U;have uV:∀ q,a≠.b q:=λq e=>by subst e;cases h
  obtain⟨u,aC,aV⟩:=ab.uU uV;obtain⟨ad,l,vs,rfl,bl,aw,aK⟩:=zo hm aV h;simp only[cD,hi,aC];exact⟨vs,bl,k _ (.val (J6 aK aw))⟩
 ·
  rename_i x;unfold V9 at h;split at h;·rename_i id off U;cases h;obtain⟨u,aC,aV⟩:=(H x (by simp[Op.operands]) _ U).uU (by simp);obtain⟨a,ax,rfl⟩:=aV.ptr;simp only[cD,aC];exact k _ (.val aV)
  ·rename_i id off U;cases h;obtain⟨u,aC,aV⟩:=(H x (by simp[Op.operands]) _ U).uU (by simp);have:=aV.qy;subst this;simp only[cD,aC];exact k _ (.val aV)
  ·cases h
 ·
  rename_i t x i;unfold V' at h;obtain⟨r,ao,h⟩:=cL h;obtain⟨a,U,h⟩:=cL h;obtain⟨off,g9⟩:=r;obtain⟨a1,h⟩:=zj h;obtain⟨sa,sD,sz,cb,mr,au,aF,GC⟩:=WU ao;have ab:=H x (by simp[Op.operands]) _ U;have uV:∀ q,a≠.b q:=λq e=>by subst e;cases h
  obtain⟨u,aC,aV⟩:=ab.uU uV;obtain⟨ad,rfl,ap,ai⟩:=WS h aV;have kp:Nat.beq g9.size 0=false:=a1;simp only[cD,au,aF,GC,aC,kp,bd];exact k _ (.val ai)
 ·
  rename_i t x i;unfold Wa at h;split at h;·rename_i off g9 cs aq U;obtain⟨sa,sD,sz,cb,mr,au,aF,GC⟩:=WU aq;obtain⟨u,aC,aV⟩:=H.bw (x:=x) (by simp[Op.operands]) U;obtain⟨us,fu,rfl⟩:=aV.agg;obtain⟨aa,ae⟩:=WT h fu;have eb:dB (dk F) x=.val (.agg us.toArray):=aC;simp only[cD,au,eb,aF,GC];rw[show Nat.ble (off+g9.size) us.toArray.size=true from AR (by simpa using aa)];exact k _ (.val ae)
  ·cases h
 ·
  rename_i t x i;unfold Wb at h;obtain⟨r,ao,h⟩:=cL h;obtain⟨a,U,h⟩:=cL h;obtain⟨b,aa,h⟩:=cL h;obtain⟨j,ak,h⟩:=cL h;obtain⟨fD,rfl⟩:=DG ak;obtain⟨u,ay,aX⟩:=H.bw (x:=i) (by simp[Op.operands]) aa;rw[aX.int]at ay;have eF:dB (dk F) i=.val (.int fD (.ofNat j)):=ay;obtain⟨Jz,aJ⟩:=r;rcases agt ao with⟨sa,sD,sz,e,au,he,rfl⟩ | ⟨sa,sD,sz,n,e,au,he,rfl⟩;·have bh:JK a j aJ.size=some v:=h;obtain⟨w,aC,aV⟩:=H.bw (x:=x) (by simp[Op.operands]) U;obtain⟨ad,n,c,rfl,aO,ai⟩:=ags bh aV;have eb:dB (dk F) x=.val (.slice (some ad) n c):=aC;simp only[cD,au,eF,he,eb];exact⟨ad,j,rfl,rfl,aO,k _ (.val ai)⟩
  ·have bh:b7 (Nat.blt j n) (Gp a (Nat.mul j aJ.size)) none=some v:=h;obtain⟨ag,bh⟩:=gF bh;have ab:=H x (by simp[Op.operands]) _ U;have uV:∀ q,a≠.b q:=λq e=>by subst e;cases bh
   obtain⟨w,aC,aV⟩:=ab.uU uV;obtain⟨ad,rfl,ap,ai⟩:=WS bh aV;simp only[cD,au,eF,he,aC];exact⟨j,rfl,bN ag,k _ (.val ai)⟩
 ·
  rename_i t x i;cases U:dj aj x with
  |none=>rw[U]at h;unfold Gq at h;split at h<;>first | cases h | (rename_i e _;cases e)
  |some a=>
   cases aa:dj aj i with
   |none=>rw[aa]at h;unfold Gq at h;split at h<;>first | cases h | (rename_i e;cases e)
   |some b=>rw[U,aa]at h;obtain⟨u,aC,aV⟩:=H.bw (x:=x) (by simp[Op.operands]) U;obtain⟨w,ay,aX⟩:=H.bw (x:=i) (by simp[Op.operands]) aa;exact agu h aV aX aC ay k
 ·
  rename_i t parts;unfold Wd at h;split at h
  ·rename_i i vs au aK;obtain⟨z,a1,h⟩:=cL h;have kp:=bM.DA (D:=D) a1;obtain⟨us,aC,aV⟩:=H.parts (l:=parts.toList) (by intro y aG;simpa[Op.operands]using aG) aK;have eb:sT (dk F) parts.toList=some us:=aC
   try simp only at h
   split at h;·rename_i cb nw;obtain⟨pj,h⟩:=gF h;unfold Gr at h;obtain⟨cs,ae,aR⟩:=cL h;have ew:some (al.a cs)=some v:=aR;cases ew;obtain⟨a2,bn,b2⟩:=J7 ae kp aV;simp only[cD,au,eb,nw,pj,bg,bn];exact k _ (.val (.J4 b2))
   ·rename_i n e nw;obtain⟨aJ,he,h⟩:=cL h;have bh:Gr (zf (λj=>some (j*aJ.size,aJ.size)) z vs)=some v:=h;unfold Gr at bh;obtain⟨cs,ae,aR⟩:=cL bh;have ew:some (al.a cs)=some v:=aR;cases ew;obtain⟨a2,bn,b2⟩:=J7 ae kp aV;simp only[cD,au,eb,nw,he,bn];exact k _ (.val (.J4 b2))
   ·cases h
  ·cases h
 ·
  rename_i f first captured
  unfold We at h;split at h
  ·rename_i g cb cs U aa;cases h;obtain⟨us,aC,aV⟩:=H.mq (l:=first.toList) (by intro y aG;simp[Op.operands];exact .inl (by simpa using aG)) U;obtain⟨ws,ay,aX⟩:=H.mq (l:=captured.toList) (by intro y aG;simp[Op.operands];exact .inr (by simpa using aG)) aa;have eb:jG (dk F) first.toList=some us:=aC
   have eF:jG (dk F) captured.toList=some ws:=ay;simp only[cD,eb,eF];exact k _ (.val (by simp only[aU];exact⟨us,ws,aV,aX,rfl⟩))
  ·cases h
 ·
  rename_i t x lo hi;cases U:dj aj x with
  |none=>rw[U]at h;unfold Gs at h;split at h<;>first | cases h | (rename_i e _ _;cases e)
  |some a=>
   rw[U]at h;cases aa:Bg (lo.map (dj aj))with
   |none=>rw[aa]at h;unfold Gs at h;split at h<;>first | cases h | (rename_i e _;cases e)
   |some l=>
    rw[aa]at h;cases ae:Bg (hi.map (dj aj))with
    |none=>rw[ae]at h;unfold Gs at h;split at h<;>first | cases h | (rename_i e;cases e)
    |some bC=>
     rw[ae]at h;obtain⟨u,aC,aV⟩:=H.bw (x:=x) (by simp[Op.operands]) U;have eb:dB (dk F) x=.val u:=aC;have eS:=WV H (λy aG=>by subst aG;simp[Op.operands]) aa;have fs:=WV H (λy aG=>by subst aG;simp[Op.operands]) ae;unfold Gs at h;split at h
     ·rename_i sa sD sz e n7 agD dw au bf b3 eY;cases bf;cases b3;cases eY;obtain⟨aJ,he,h⟩:=cL h;have bh:OH aJ a l bC=some v:=h;unfold OH at bh;split at bh
      ·have el:lo.map (dB (dk F))=none:=by
        rcases eS with⟨el,_⟩ | ⟨_,_,_,el⟩;·exact el
        ·cases el
       have oL:hi.map (dB (dk F))=none:=by
        rcases fs with⟨oL,_⟩ | ⟨_,_,_,oL⟩;·exact oL
        ·cases oL
       have m6:∃ q n c,u=.slice q n c/\aU D v u:=by
        split at bh;·cases bh;exact⟨_,_,_,aV.Bn,aV⟩
        ·cases bh;obtain⟨q,_,rfl⟩:=aV.sC;exact⟨_,_,_,rfl,aV⟩
        ·cases bh;obtain⟨q,_,_,rfl⟩:=aV.uT;exact⟨_,_,_,rfl,aV⟩
        ·cases bh;obtain⟨q,c,rfl⟩:=aV.J3;exact⟨_,_,_,rfl,aV⟩
        ·cases bh
       obtain⟨q,n,c,rfl,ai⟩:=m6;simp only[cD,au,eb,he,el,oL,tN];exact k _ (.val ai)
      ·obtain⟨q,n,c,rfl,cT,c3,hc,ai⟩:=agv bh aV;simp only[cD,au,eb,he,tN];rcases eS with⟨el,rfl⟩ | ⟨EH,GD,el,rfl⟩<;>rcases fs with⟨oL,rfl⟩ | ⟨agE,GF,oL,rfl⟩<;>simp only[el,oL]
       ·rename_i bu;exact(bu rfl rfl).elim
       ·simp only[tM,j1]at cT c3 ai;refine⟨0,GF,rfl,rfl,bi _,c3,k _ (.val ?_)⟩;simp only[EZ,zp]at ai;have cd:(if c=0 then q else q.map λx=>x.add 0)=q:=by
         split;·rfl
         ·cases q with
          |none=>rfl| some q=>simp[Addr.add]
        rw[cd]at ai;exact ai
       ·simp only[tM,j1]at cT c3 ai;exact⟨GD,n,rfl,rfl,cT,b1 _,k _ (.val ai)⟩
       ·simp only[tM,j1]at cT c3 ai;exact⟨GD,GF,rfl,rfl,cT,c3,k _ (.val ai)⟩
     ·rename_i sa sD sz str agD dw au bf b3 eY;cases bf;cases b3;cases eY;rw[aV.str]at eb;have bh:OI str l bC=some v:=h;unfold OI at bh;split at bh
      ·have el:lo.map (dB (dk F))=none:=by
        rcases eS with⟨el,_⟩ | ⟨_,_,_,el⟩;·exact el
        ·cases el
       have oL:hi.map (dB (dk F))=none:=by
        rcases fs with⟨oL,_⟩ | ⟨_,_,_,oL⟩;·exact oL
        ·cases oL
       cases bh;simp only[cD,au,eb,el,oL];exact k _ (.val (by simp only[aU]))
      ·obtain⟨ag,bh⟩:=gF bh;cases bh;rw[cA]at ag;have b':=bN ag.1;have ch:=bN ag.2;have cr:(⟨str.toArray⟩:ByteArray).size=str.length:=by simp[ByteArray.size]
       simp only[cD,au,eb];rcases eS with⟨el,rfl⟩ | ⟨EH,GD,el,rfl⟩<;>rcases fs with⟨oL,rfl⟩ | ⟨agE,GF,oL,rfl⟩<;>simp only[el,oL]
       ·rename_i bu;exact(bu rfl rfl).elim
       ·simp only[tM,j1]at b' ch;exact⟨0,GF,rfl,rfl,bi _,by rw[cr];exact ch,k _ (.val (by simp only[aU,tM,j1,Pj]))⟩
       ·simp only[tM,j1]at b' ch;exact⟨GD,str.length,rfl,by rw[cr];rfl,b',by rw[cr];exact b1 _,k _ (.val (by simp only[aU,tM,j1,Pj,cr]))⟩
       ·simp only[tM,j1]at b' ch;exact⟨GD,GF,rfl,rfl,b',by rw[cr];exact ch,k _ (.val (by simp only[aU,tM,j1,Pj]))⟩
     ·cases h
 ·
  rename_i x i;unfold Wf at h;split at h;·rename_i vs U;obtain⟨u,aC,aV⟩:=H.bw (x:=x) (by simp[Op.operands]) U;obtain⟨us,fu,rfl⟩:=aV.Pa;rw[zn]at h;obtain⟨w,hw,ai⟩:=fu.get h;have eb:dB (dk F) x=.val (.tuple us.toArray):=aC;simp only[cD,eb,hw];exact k _ (.val ai)
  ·cases h
 ·
  rename_i s d x;unfold Wg at h;split at h;·rename_i fD db n ap ah U;cases h;obtain⟨u,aC,aV⟩:=H.bw (x:=x) (by simp[Op.operands]) U;rw[aV.int]at aC;have eb:dB (dk F) x=.val (.int db n):=aC;simp only[cD,ap,ah,eb];exact⟨_,rfl,k _ (.val (by simp only[aU];rw[zl]))⟩
  ·cases h
 ·
  rename_i b args ts;exact agy aP h (by simpa[Op.operands,Call.operands]using H) k
 ·cases h
end
def bH.set(D:bH)(id:Nat)(a:Loc):bH:=λi=>if i=id then some a else D i
def bH.rD(D:bH)(id:Nat)(a:Loc):(D.set id a) id=some a:=by simp[bH.set]
def bH.le_refl(D:bH):D.le D:=λ_ _ h=>h
def bH.le_trans{D br GG:bH}(h:D.le br)(k:br.le GG):D.le GG:=λi a e=>k _ _ (h _ _ e)
def bH.zr{D:bH}{id:Nat}(a:Loc)(h:D id=none):D.le (D.set id a):=λi b ag=>by
 unfold bH.set;split
 ·rename_i e;subst e;rw[h]at ag;cases ag
 ·exact ag
def bH.ext(D br:bH)(n:Nat):Prop:=∀ i,i<n->br i=D i
def bH.oM{D:bH}{n:Nat}:D.ext D n:=λ_ _=>rfl
def bH.DH{D:bH}{n:Nat}{a:Loc}:D.ext (D.set n a) n:=λi hi=>by unfold bH.set;rw[cG (by omega)]
section
variable{Y:gE}{D br:bH}{m:bo}{I I':aH}{M M':List aE}{R:Type}
def GB.mono{G:GT}(h:GB G I)(bx:∀ b o,I b=some o->I' b=some o):GB G I':=λg cs aB=>by obtain⟨arr,T,f,U,aa⟩:=h g cs aB;exact⟨arr,T,f,bx _ _ U,aa⟩
def df.le(h:df Y D m I M)(dr:D.ext br m.n):D.le br:=λi a ax=>by rw[dr i (h.jy _ _ ax)];exact ax
def df.step(h:df Y D m I M){fA:Nat}{a:Loc}(au:∀ id e,e9.get id=some e->(id=j/\cd=e)\/(id≠j/\m.t.get id=some e))(ak:br j=some a)(bk:D.le br)(dr:∀ i,i≠j->br i=D i)(agF:∀ id a,br id=some a->id<fA)(bx:∀ b o,I b=some o->I' b=some o)(q0:∀ id e bX,id≠j->m.t.get id=some e->D id=some bX->∀ x∈M,x.num=bX.b->x∈M')
  (he:lh br Y.E M' a cd) (I5:∀ id e bX,id≠j->m.t.get id=some e->D id=some bX->bX.b≠a.b):df Y br ⟨e9,fA⟩ I' M' where
 iD id e cg aB U:=by
  rcases au id e aB with⟨aC,ay⟩ | ⟨bu,aB⟩;·subst aC;subst ay;rw[ak]at U;cases U;exact he
  ·rw[dr id bu]at U;exact(h.iD id e cg aB U).mono bk λx ab an=>q0 id e cg bu aB U x ab an
 inj id ih e a4 cg dv aB kr U aa ag:=by
  rcases au id e aB with⟨aC,ay⟩ | ⟨bu,aB⟩
  ·rcases au ih a4 kr with⟨bf,b3⟩ | ⟨z2,kr⟩
   ·rw[aC,bf]
   ·rw[dr ih z2]at aa;subst aC;rw[ak]at U;cases U;exact(I5 ih a4 dv z2 kr aa ag.symm).elim
  ·rw[dr id bu]at U;rcases au ih a4 kr with⟨bf,b3⟩ | ⟨z2,kr⟩
   ·subst bf;rw[ak]at aa;cases aa;exact(I5 id e cg bu aB U ag).elim
   ·rw[dr ih z2]at aa;exact h.inj id ih e a4 cg dv aB kr U aa ag
 jy:=agF
 qy:=h.qy.mono bx
def df.fresh(h:df Y D m I M):D m.n=none:=by
 cases dr:D m.n with
 |none=>rfl| some a=>exact absurd (h.jy _ _ dr) (Nat.lt_irrefl _)
def df.aQ(h:df Y D m I M){id:Nat}{e:fW}{a:Loc}(aB:m.t.get id=some e)(ax:D id=some a):∃ x∈M,x.num=a.b:=by
 cases h.iD id e a aB ax with
 |cells arr aq U=>exact⟨_,U,rfl⟩| map l c U=>exact⟨_,U,rfl⟩| loop L U=>exact⟨_,U,rfl⟩| done L U=>exact⟨_,U,rfl⟩
def df.new(h:df Y D m I M){a:Loc}{o:Obj}(au:∀ id e,e9.get id=some e->(id=m.n/\some cd=some e)\/(id≠m.n/\m.t.get id=some e))(aF:∀ x∈M,x.num≠a.b)
  (he:lh (D.set m.n a) Y.E (⟨a.b,o⟩::M) a cd):df Y (D.set m.n a) ⟨e9,m.n+1⟩ I (⟨a.b,o⟩::M):=
 h.step (λid e aB=>(au id e aB).imp (λh=>⟨h.1,oK h.2⟩) λh=>h) (D.rD _ _) (bH.zr a h.fresh) (λi hi=>by unfold bH.set;rw[cG hi])
  (λid b ag=>by
   unfold bH.set at ag;split at ag;·omega
   ·have:=h.jy _ _ ag;omega)
  (λ_ _ h=>h) (λ_ _ _ _ _ _ x ab _=>nX _ ab) he
  (λid e bX _ aB zs ag=>by
   obtain⟨x,ab,an⟩:=h.aQ aB zs;exact aF x ab (an.trans ag))
def lh.new{l:List al}{aS:List Value}{T c:Nat}{b:Nat}{cs:be al}(lZ:∀ j x,cs.get j=some x->(0<=j/\l[j-0]?=some x)\/((j<0\/0+l.length<=j)/\(be.nil:be al).get j=some x))(aw:bM D l vs)
  (af:∀ i,Y.E T=some i->(vs++aS).length=c*i.size) (aN:c<=maxLen):lh D Y.E (⟨b,.cells (vs++aS).toArray T (0,0)⟩::M) ⟨b,0,c⟩ (.cells cs T l.length):=by
 refine .cells (vs++aS).toArray rfl (by simp) (by simp[aw.len]) (λi v hi aB=>?_) (λi hi=>by simpa using af i hi) aN;rcases lZ i v aB with⟨_,U⟩ | ⟨_,U⟩
 ·obtain⟨x,aa,ae⟩:=aw.get (i:=i) (by simpa using U);have aO:=(iY.1 aa).1;exact⟨x,by simp only[dK,Af];rw[oX aO];exact aa,ae⟩
 ·cases U
def GH{e:fW}{K:Nat->bo->Option R}{r:R}(h:Bh m e K=some r):∃ e9,(∀ id a4,e9.get id=some a4->(id=m.n/\some e=some a4)\/(id≠m.n/\m.t.get id=some a4))/\K m.n ⟨e9,m.n+1⟩=some r:=by unfold Bh at h;rw[O7]at h;obtain⟨e9,U,aa⟩:=be.oJ (some e) m.t m.n;rw[U]at h;exact⟨e9,aa,h⟩
def Pl{l:List al}{T:Nat}{K:Nat->bo->Option R}{r:R}(h:uQ m l T K=some r):∃ m',K m.n m'=some r/\m'.n=m.n+1 /\
  ∀ {D:bH} {I:aH} {M:List aE} {vs:List Value} (aS:List Value) {b c:Nat},df Y D m I M->(∀ x∈M,x.num≠b)->bM D l vs->(∀ i,Y.E T=some i->(vs++aS).length=c*i.size)->c<=maxLen ->
   df Y (D.set m.n ⟨b,0,c⟩) m' I (⟨b,.cells (vs++aS).toArray T (0,0)⟩::M):=by
 unfold uQ at h;obtain⟨cs,U,aa⟩:=be.xL l (.nil:be al) 0;rw[U]at h;obtain⟨e9,ae,aR⟩:=GH h;refine⟨_,aR,rfl,fun {D I M vs} aS {b c} hm aF aw af aN=>?_⟩;exact hm.new (a:=⟨b,0,c⟩) ae aF (.new aa (aw.mono (bH.zr _ hm.fresh)) af aN)
end
def agG(z:List Value)(n:Nat):rowOf z (z.length+n)=rowOf z z.length++rowOf z n:=by unfold rowOf;rw[N5,fC,jt];congr 1;apply yJ;intro i _;simp[Nat.add_mod_left]
def agH(z:List Value):rowOf z z.length=z:=by
 unfold rowOf;apply yp
 ·simp
 ·intro i U aa;simp only[lH,nj,Nat.mod_eq_of_lt aa];simp[aa]
def Pm(z:List Value):∀ n,rowOf z (n*z.length)=(List.replicate n z).flatten
 |0=>by simp[rowOf]
 |n+1=>by rw[Nat.succ_mul,HP,agG,agH,Pm z n,yZ,Nk]
def WW(place:Nat->Option (Nat×Nat)):∀ (vs:List (Nat×Value)) (cs r:List Value),sS place cs vs=some r->r.length=cs.length
 |[],cs,r,h=>by simp only[sS]at h;cases h;rfl
 |(i,v)::vs,cs,r,h=>by
  simp only[sS]at h;split at h;·cases h
  ·rename_i off size aK;cases ag:(Nat.beq v.cells.size size&&Nat.ble (off+size) cs.length)with
   |false=>rw[ag]at h;cases h| true=>rw[ag]at h;simp only[bg]at h;rw[WW place vs _ _ h];rw[cA]at ag;have U:=cM ag.1;have aa:=bN ag.2;simp[bO];omega
def zt(dst:Option Nat)(u:Value)(F en:Fr):Prop:=(∀ d,dst=some d->en d=.val u)/\∀ (D:bH) t v,dst≠some t->gd D (F t) v->gd D (en t) v
def zt.put(dst:Option Nat)(u:Value)(F:Fr):zt dst u F (put dst (.val u) F):=by
 constructor
 ·rintro d rfl;simp[Go.V.put,gH]
 ·intro D t v bu h;cases dst with
  |none=>exact h| some d=>have:t≠d:=λe=>bu (by rw[e]);simp only[Go.V.put,gH,gS this,bd];exact h
def zt.pT(d:Nat)(u:Value)(F:Fr):zt (some d) u F (gH (pT F d) d (.val u)):=by
 constructor
 ·rintro _⟨⟩;simp[gH]
 ·intro D t v bu h;have:t≠d:=λe=>bu (by rw[e]);simp only[gH,gS this,bd];unfold Go.V.pT;rcases h with⟨agI,e,h⟩ | ⟨q,e,h⟩
  ·rw[e];exact .inl ⟨agI,rfl,h⟩
  ·rw[h];exact .inr ⟨q,e,rfl⟩
section
variable{X:cW}{G:GT}{pr:lP}{D:bH}{m:bo}{F:Fr}{aj:be al}{C:dM}{I:aH}{M:List aE}{K:gg}{o:Oper}
def WX(aP:cY X.P X.E)(j4:∀ d,d<X.n->X.gJ.contains d=true)(ah:∀ d,o.dst=some d->d<X.n){l:List al}{T c:Nat}{mk:Nat->al}(h:Bj X.E o aj=some (l,T,c,mk))(GI:o.dst.isSome=true)(H:iV D F aj o.op.operands.toList)
  (k:∀ b vs u en C',I b=none->(∀ x∈M,x.num≠b)->bM D l vs->(∀ i,X.E T=some i->vs.length=c*i.size)->c<=maxLen->(∀ (br:bH) id,br id=some ⟨b,0,c⟩->aU br (mk id) u)->zt o.dst u F en ->
   K en C' I (⟨b,.cells vs.toArray T (0,0)⟩::M)):gK X o F C I M K:=by
 obtain⟨dst,op,ty,pos,after,guard⟩:=o;cases dst with
 |none=>cases GI
 |some d=>
  have q3:X.gJ.contains d=true:=j4 d (ah d rfl);have WY:∀ (b c:Nat) (br:bH) id,br id=some ⟨b,0,c⟩->aU br (.p id 0) (.pointer (some ⟨b,0,none⟩)):=λb c br id lQ=>by simp only[aU];exact⟨_,lQ,rfl⟩
  unfold Bj at h;simp only at h H;split at h
  ·rename_i t x;unfold Wo at h;obtain⟨i,hi,h⟩:=cL h;obtain⟨v,ai,h⟩:=cL h;obtain⟨ag,h⟩:=gF h;cases h;obtain⟨u,aC,aV⟩:=H.bw (x:=x) (by simp[Op.operands]) ai;have aN:=aV.cells;simp only[gK,aC,q3,bg];refine⟨λb U aa=>?_⟩;have:=k b u.cells.toList (.pointer (some ⟨b,0,none⟩)) _ (iZ C d none) U aa aN (λfX dw=>?_) (by decide) (WY b 1) (.pT d _ F)
   ·simpa using this
   ·rw[hi]at dw;cases dw;rw[aN.len,o0];exact cM ag
  ·rename_i t;unfold Wp at h;obtain⟨i,hi,h⟩:=cL h;obtain⟨z,a1,h⟩:=cL h;cases h;simp only[gK,hi,q3,bg];refine⟨λb U aa=>?_⟩;exact k b i.zero (.pointer (some ⟨b,0,none⟩)) _ (iZ C d none) U aa (.DA a1) (λfX dw=>by rw[hi]at dw;cases dw;rw[(aP _ _ hi).len,o0]) (by decide) (WY b 1) (.pT d _ F)
  ·rename_i t len parts;unfold Wq at h;split at h
   ·rename_i sa sD sz e vs au aK;obtain⟨aJ,he,h⟩:=cL h;obtain⟨z,a1,h⟩:=cL h;obtain⟨us,aC,aV⟩:=H.parts (l:=parts.toList) (by intro y aG;simpa[Op.operands]using aG) aK;simp only[gK,au,aC,he];have IP:=(aP _ _ he).len;cases ag:(Nat.ble (len*aJ.size) 16777216&&Nat.blt 0 (len*aJ.size))with
    |true=>
     have h2:(Nat.ble (Nat.mul len aJ.size) 16777216&&Nat.blt 0 (Nat.mul len aJ.size))=true:=ag;rw[ke,h2]at h;simp only[bg]at h |-;obtain⟨cs,ae,aR⟩:=cL h;have ew:some (cs,e,len,λid=>al.sl id 0 len len)=some (l,T,c,mk):=aR;cases ew;have nV:bM D (Bi c z) (rowOf aJ.zero (c*aJ.size)):=by rw[<-IP,Pm];exact(bM.DA a1).l7 c
     obtain⟨a2,bn,b2⟩:=J7 ae nV aV;rw[bn];refine⟨λb U aa=>?_⟩;have bY:a2.length=c*aJ.size:=by rw[WW _ _ _ _ bn];simp[rowOf]
     rw[cA]at ag;have mD:=bN ag.1;have kq:0<c*aJ.size:=bN ag.2;exact k b a2 (.slice (some ⟨b,0,none⟩) c c) _ C U aa b2 (λfX dw=>by rw[he]at dw;cases dw;exact bY)
      (by
       have eh:0<aJ.size:=Nat.pos_of_mul_pos_left kq;have:c<=c*aJ.size:=Nat.le_mul_of_pos_right _ eh;simp only[maxLen];omega)
      (λbr id lQ=>by simp only[aU];exact⟨_,lQ,rfl⟩) (.put _ _ F)
    |false=>
     have h2:(Nat.ble (Nat.mul len aJ.size) 16777216&&Nat.blt 0 (Nat.mul len aJ.size))=false:=ag;rw[ke,h2]at h;simp only[bd]at h |-;obtain⟨aN,h⟩:=gF h;cases h;rw[cA]at aN;have ae:=cM aN.1;subst ae;have aR:vs=[]:=by simpa using aN.2
     subst aR;cases aV;simp only;refine⟨λb U aa=>?_⟩;exact k b [] (.slice (some ⟨b,0,none⟩) 0 0) _ C U aa .nil (λfX dw=>by simp) (by decide) (λbr id lQ=>by simp only[aU];exact⟨_,lQ,rfl⟩) (.put _ _ F)
   ·cases h
  ·rename_i t dg c';unfold Wr at h;split at h
   ·rename_i sa sD sz e H2 zu au U aa;obtain⟨aJ,he,h⟩:=cL h;obtain⟨n,an,h⟩:=cL h;obtain⟨q,az,h⟩:=cL h;obtain⟨z,a1,h⟩:=cL h;obtain⟨ag,h⟩:=gF h;cases h;obtain⟨db,rfl⟩:=DG an;obtain⟨cR,rfl⟩:=DG az;obtain⟨uW,aC,aV⟩:=H.bw (x:=dg) (by simp[Op.operands]) U;obtain⟨rE,ay,aX⟩:=H.bw (x:=c') (by simp[Op.operands]) aa;rw[aV.int]at aC;rw[aX.int]at ay;simp only[cA]at ag;simp only[gK,au,aC,ay,he];refine⟨n,c,rfl,rfl,bN ag.1,bN ag.2.1,bN ag.2.2,⟨λb ae aR=>?_⟩⟩;have IP:=(aP _ _ he).len;have nV:bM D (Bi c z) (rowOf aJ.zero (c*aJ.size)):=by rw[<-IP,Pm];exact(bM.DA a1).l7 c
    exact k b _ (.slice (some ⟨b,0,none⟩) n c) _ C ae aR nV (λfX dw=>by rw[he]at dw;cases dw;simp[rowOf]) (bN ag.2.2) (λbr id lQ=>by simp only[aU];exact⟨_,lQ,rfl⟩) (.put _ _ F)
   ·cases h
  ·cases h
end
def WZ(h:off+vs.length<=cs.length):(bO cs off vs)[i]?=if off<=i/\i<off+vs.length then vs[i-off]? else cs[i]?:=by
 unfold bO;by_cases U:i<off
 ·rw[cG (by omega),oX (by simp;omega),oX (by simp;omega),lW,dd U]
 ·by_cases aa:i<off+vs.length
  ·rw[dd ⟨by omega,aa⟩,oX (by simp;omega),pd (by simp;omega)];simp;congr 1;omega
  ·rw[cG (by omega),pd (by simp;omega),qO];congr 1;simp;omega
def Pn(h:off+vs.length<=cs.length):(bO cs off vs).length=cs.length:=by simp[bO];omega
section
variable{Y:gE}{D:bH}{m:bo}{I:aH}{M:List aE}{R:Type}
def Po{x:al}{l:List al}{K:bo->Option R}{r:R}(h:xJ m x l K=some r):∃ m',K m'=some r/\m'.n=m.n/\(∀ id,m'.t.get id≠none->m.t.get id≠none\/True) /\
  ∀ {D:bH} {I:aH} {M:List aE} {u:Value} {vs:List Value},df Y D m I M->aU D x u->bM D l vs ->
   ∃ (g off:Nat) (a9 post:List aE) (arr:Array Value) (T:Nat),u=.pointer (some ⟨g,off,none⟩)/\M=a9++⟨g,.cells arr T (0,0)⟩::post/\off+vs.length<=arr.size/\gI vs=true /\ (∃ id e a,m.t.get id=some e/\D id=some a/\a.b=g) /\
    df Y D m' I (a9++⟨g,.cells (bO arr.toList off vs).toArray T (0,0)⟩::post):=by
 unfold xJ at h;split at h
 ·rename_i id off;split at h
  ·rename_i cs T fh aB;cases ag:(Nat.ble (Nat.add off l.length) fh&&l.all al.one)with
   |false=>rw[ag]at h;cases h
   |true=>
    rw[ag]at h;simp only[bg]at h;rw[cA]at ag;have uX:off+l.length<=fh:=bN ag.1;obtain⟨cs',U,aa⟩:=be.xL l cs off;rw[U]at h;obtain⟨e9,ae,aR⟩:=be.oJ (some (fW.cells cs' T fh)) m.t id;rw[ae]at h;refine⟨_,h,rfl,λ_ _=>.inr trivial,fun {D I M u vs} hm ab aw=>?_⟩;obtain⟨a,ax,rfl⟩:=ab.ptr;have he:=hm.iD _ _ _ aB ax;obtain⟨arr,ar,bb,cr,aN,af,e8⟩:=he;have bY:=aw.len;obtain⟨a9,post,bZ⟩:=tB bb;have fP:off+vs.length<=arr.size:=by omega
    refine⟨a.b,off,a9,post,arr,T,by rw[ar,dK],bZ,fP,aw.one ag.2,⟨id,_,a,aB,ax,rfl⟩,?_⟩;have fx:∀ x∈M,x.num≠a.b->x∈a9++⟨a.b,.cells (bO arr.toList off vs).toArray T (0,0)⟩::post:=λx ab an=>by
     rw[bZ]at ab;rcases dW.1 ab with ab | ab;·exact dW.2 (.inl ab)
     ·rcases et.1 ab with rfl | ab
      ·exact(an rfl).elim
      ·exact dW.2 (.inr (nX _ ab))
    refine hm.step (λi e hi=>(aR i e hi).imp (λq=>⟨q.1,oK q.2⟩) λq=>q) ax (bH.le_refl D) (λ_ _=>rfl) hm.jy (λ_ _ h=>h) (λi e bX bu hi nq x ab an=>fx x ab ?_) ?_ ?_;·rw[an];exact λag=>bu (hm.inj _ _ _ _ _ _ hi aB nq ax ag)
    ·have GJ:(bO arr.toList off vs).length=arr.size:=by rw[Pn (by simpa using fP)];simp
     refine .cells (bO arr.toList off vs).toArray ar (by simp) (by simp[GJ];exact cr) (λi v hi GK=>?_) (λi hi=>by simp[GJ];exact af i hi) e8;rw[ar,dK];simp only[Af];rw[WZ (by simpa using fP)];rcases aa i v GK with⟨aV,aX⟩ | ⟨aV,aX⟩;·have aO:=(iY.1 aX).1;rw[dd ⟨aV,by omega⟩];exact aw.get aX
     ·rw[cG (by omega)];have:=aN i v hi aX;rw[ar,dK]at this;simpa using this
    ·intro i e bX bu hi nq ag;exact bu (hm.inj _ _ _ _ _ _ hi aB nq ax ag)
  ·cases h
 ·cases h
def Pp:∀ {l:List al} {bs:List UInt8} {vs:List Value},Ds l=some bs->bM D l vs->vs=bs.map (λb=>.int .u8 b.toNat)
 |[],bs,vs,h,aw=>by simp only[Ds]at h;cases h;exact aw.nm
 |v::l,bs,vs,h,aw=>by
  unfold Ds at h;split at h;·rename_i e;cases e
  ·rename_i n dg e;cases e;cases ag:Nat.ble n 255 with
   |false=>rw[ag]at h;cases h
   |true=>
    rw[ag]at h;simp only[bg]at h;split at h;·rename_i r ao;cases h;obtain⟨x,xs,U,aa,rfl⟩:=aw.kf;have an:=bN ag;rw[Pp ao aa,U.int];simp only[ek,ta,and_true,Value.int.injEq,true_and];rw[UInt8.toNat_ofNat_of_lt' (show n<256 by omega)];rfl
    ·cases h
  ·cases h
inductive zv:TypeDesc->al->Prop
 |int{k n}:zv (.int k) (.i k n)| str {l}:zv .string (.s l)
def W0(aP:cY P E){k:Nat}{y:al}(h:JQ (E k) y=true):∃ d,P.underlying k=some d/\zv d y:=by
 unfold JQ at h;split at h
 ·rename_i fD c7 n af;have:=IntKind.Ci h;subst this;obtain⟨d,hu,ah⟩:=(aP _ _ af).fk;refine⟨d,hu,?_⟩;have:d=.int fD:=by cases d<;>simp_all[fj]
  subst this;exact .int
 ·rename_i l af;obtain⟨d,hu,ah⟩:=(aP _ _ af).fk;refine⟨d,hu,?_⟩;have:d=.string:=by cases d<;>simp_all[fj]
  subst this;exact .str
 ·cases h
def zv.isKey{y:al}(h:zv d y)(aG:aU D y u):MapKept.IsKey d u:=by
 cases h with
 |int=>rw[aG.int];rfl| str=>rw[aG.str];trivial
def W1(a b:ByteArray):(a == b)=decide (a=b):=by rw[pQ,MapKept.bytes_beq];simp
def DI{y x:al}{r:Bool}(h:zv d y)(aG:aU D y u)(ab:aU D x w)(he:Dl y x=some r):Instr.sameNow d u w=some r:=by
 cases h with
 | @int k n=>
  rw[aG.int];unfold Dl at he;split at he;·rename_i e;cases e
  ·rename_i db a cR b e;cases e;obtain⟨U,aa⟩:=gF he;have:=IntKind.Ci U;subst this;cases aa;rw[ab.int];simp only[Instr.sameNow,sQ,zk];congr 1
  ·rename_i e;cases e
  ·cases he
 | @str l=>
  rw[aG.str];unfold Dl at he;split at he;·rename_i e;cases e
  ·rename_i e;cases e
  ·rename_i a b e;cases e;cases he;rw[ab.str];simp only[Instr.sameNow];rw[W1,J8,Bm]
  ·cases he
def W2{d:TypeDesc}{y:al}{u:Value}(h:zv d y)(aG:aU D y u):∀ {es:List (al×al)} {l:List MapEntry} {r:Option al} (i:Nat),qA D es l->Gt y es=some r ->
  match r with
  |none=>Instr.findNow d u l i=some none| some v=>∃ j w,Instr.findNow d u l i=some (some (j,w))/\aU D v w
 |[],_,r,i,.nil,aw=>by simp only[Gt]at aw;cases aw;rfl
 |(x,v)::es,_,r,i,.cons (e:=e) (l:=l) af ai t,aw=>by
  simp only[Gt]at aw;split at aw;·rename_i he;cases aw;refine⟨i,e.val,?_,ai⟩;simp only[Instr.findNow,DI h aG af he]
  ·rename_i he;have bc:=W2 h aG (i+1) t aw;simp only[Instr.findNow,DI h aG af he];exact bc
  ·cases aw
def W3{d:TypeDesc}{y v:al}{u w:Value}(h:zv d y)(aG:aU D y u)(ai:aU D v w):∀ {es uY:List (al×al)} {l:List MapEntry} (i:Nat),qA D es l->Gu y v es=some uY -> (Instr.findNow d u l i=some none/\∀ b,qA D uY (l++[{ key:=u,val:=w,born:=b }])) \/ ∃ j e,Instr.findNow d u l i=some (some (i+j,e.val))/\l[j]?=some e/\Instr.sameNow d u e.key=some true/\qA D uY (l.modify j λe=>{ e with key:=u,val:=w })
 |[],uY,_,i,.nil,aw=>by simp only[Gu]at aw;cases aw;exact .inl ⟨rfl,λb=>.cons aG ai .nil⟩
 |(x,np)::es,uY,_,i,.cons (e:=e) (l:=l) af ny t,aw=>by
  simp only[Gu]at aw;split at aw
  ·rename_i he;cases aw;refine .inr ⟨0,e,?_,rfl,DI h aG af he,?_⟩
   ·simp only[Instr.findNow,DI h aG af he,rW]
   ·simp only[List.modify_zero_cons];exact .cons aG ai t
  ·rename_i he;split at aw
   ·rename_i r ao;cases aw;rcases W3 h aG ai (i+1) t ao with⟨U,aa⟩ | ⟨j,a4,U,aa,ae,aR⟩
    ·refine .inl ⟨?_,λb=>.cons af ny (aa b)⟩;simp only[Instr.findNow,DI h aG af he];exact U
    ·refine .inr ⟨j+1,a4,?_,by simpa using aa,ae,?_⟩
     ·simp only[Instr.findNow,DI h aG af he];rw[U];congr 3;omega
     ·simp only[List.modify_succ_cons];exact .cons af ny aR
   ·cases aw
  ·cases aw
end
section
variable{P:Program}{w:World}
def agJ{k:Nat}(au:P.underlying t=some (.map k e))(af:P.underlying k=some d)(wq:MapKept.IsKey d u){g:Nat}{l:List MapEntry}(aB:w.heap[g]?=some (.map l.toArray clock))
  {q:Option (Nat×Value)} (aF:Instr.findNow d u l 0=some q) {inf:TypeInfo} {z:Value} (hi:P.info? e=some inf) (a1:inf.zero=some z) (ok:Bool) :
  (Instr.lookup t (.map (some g)) u ok).run P w=.ok (bif ok then .tuple #[(q.map (·.2)).getD z,.bool q.isSome]else(q.map (·.2)).getD z) w:=by
 have aN:(Instr.checkKey l.toArray.isEmpty 10000 k u).run P w=.ok () w:=Ft af wq _ 9999;have xo:(Instr.findKey k u l).run P w=.ok q w:=Fu af aF;have Kb:(zeroValue e).run P w=.ok z w:=by simp[zeroValue,typeInfo,hi,a1]
 unfold Instr.lookup;simp only[ca,run_underlying au,bR,Fs aB,c5,aN,xo];cases q with
 |none=>cases ok<;>simp[Kb]
 |some p=>cases ok<;>simp
def agK{k:Nat}(au:P.underlying t=some (.map k e))(af:P.underlying k=some d){v:Value}(wq:MapKept.IsKey d u){g:Nat}{l:List MapEntry}(aB:w.heap[g]?=some (.map l.toArray clock))
  (aF:Instr.findNow d u l 0=some none):(Instr.mapUpdate t (.map (some g)) u v).run P w=.ok () { w with heap:=w.heap.setIfInBounds g (.map (l++[({ key:=u,val:=v,born:=clock }:MapEntry)]).toArray (clock+1)) }:=by
 have aN:(Instr.checkKey false 10000 k u).run P w=.ok () w:=Ft af wq _ 9999;have xo:(Instr.findKey k u l).run P w=.ok none w:=Fu af aF;unfold Instr.mapUpdate;simp only[ca,run_underlying au,bR,Fs aB,aN,xo,Mx _ aB];congr 3;simp
def agL{k:Nat}(au:P.underlying t=some (.map k e))(af:P.underlying k=some d){v:Value}(wq:MapKept.IsKey d u){g:Nat}{l:List MapEntry}(aB:w.heap[g]?=some (.map l.toArray clock))
 {a4:MapEntry} (aF:Instr.findNow d u l 0=some (some (j,a4.val))) (ak:l[j]?=some a4) (ap:a4.key=u) :
  (Instr.mapUpdate t (.map (some g)) u v).run P w=.ok () { w with heap:=w.heap.setIfInBounds g (.map (l.modify j λe=>{ e with key:=u,val:=v }).toArray clock) }:=by
 have aN:(Instr.checkKey false 10000 k u).run P w=.ok () w:=Ft af wq _ 9999;have xo:(Instr.findKey k u l).run P w=.ok (some (j,a4.val)) w:=Fu af aF;have cf:(Instr.keyThatStays u u).run P w=.ok u w:=MapKept.run_keyThatStays wq;unfold Instr.mapUpdate;simp only[ca,run_underlying au,bR,Fs aB,aN,xo];simp only[Af,ak,ly,j1,ap,cf,bR,Mx _ aB];congr 3;show Obj.map _ _=Obj.map _ _;congr 1;apply gG;simp
end
section
variable{X:cW}{G:GT}{pr:lP}{D:bH}{m m':bo}{F:Fr}{aj:be al}{C:dM}{I:aH}{M:List aE}{K:gg}{o:Oper}{v:al}
def rF(X:cW)(G:GT)(pr:lP)(D:bH)(m:bo)(I:aH)(M:List aE)(v:al)(m':bo)(dst:Option Nat)(F:Fr)(C:dM)(K:gg):Prop:=
 ∀ br u M',D.ext br m.n->aU br v u->df (dR X G pr) br m' I M'->K (put dst (.val u) F) C I M'
def agM(ar:o.op=.store t x y)(h:b4 o.dst (JO (X.E t) m (dj aj x) (dj aj y)) (λ_=>none)=some (v,m'))(H:iV D F aj o.op.operands.toList)(hm:df (dR X G pr) D m I M)
  (k:rF X G pr D m I M v m' o.dst F C K):gK X o F C I M K:=by
 obtain⟨dst,op,ty,pos,after,guard⟩:=o;simp only at ar;subst ar;cases dst with
 |some d=>cases h
 |none=>
  have U:JO (X.E t) m (dj aj x) (dj aj y)=some (v,m'):=h;unfold JO at U;obtain⟨i,hi,U⟩:=cL U;obtain⟨a,ab,U⟩:=cL U;obtain⟨b,aG,U⟩:=cL U;obtain⟨ag,U⟩:=gF U;obtain⟨m2,aa,-,-,ae⟩:=Po (Y:=dR X G pr) U;cases aa;simp only at H;have W4:=H x (by simp[Op.operands]) _ ab;have uV:∀ q,a≠.b q:=λq e=>by subst e;cases U
  obtain⟨u,aC,aV⟩:=W4.uU uV;obtain⟨w,ay,aX⟩:=H.bw (x:=y) (by simp[Op.operands]) aG;obtain⟨g,off,a9,post,arr,T,rfl,bb,fP,h3,⟨id,e,jz,lQ,xm,aB⟩,mi⟩:=ae hm aV aX.cells;simp only[gK,hi,ay,aC];have cr:Nat.beq w.cells.size i.size=true:=by have:=aX.cells.len;rw[ym]at this;rw[this];exact ag
  rw[cr];simp only[bg];refine⟨a9,post,arr,T,bb,rfl,fP,h3,?_⟩;exact k D (.tuple #[]) _ bH.oM (by simp only[aU];exact⟨[],.nil,rfl⟩) mi
def W5(ah:∀ d,o.dst=some d->d<X.n)(cq:∀ c,o.op≠.defer c)
  (h:∀ (β:Nat->Nat) (a:Act) (w:World),cH X β a w F C I M->∃ u w' I' M',(execOp a.eval o).run X.P w=.ok (.value u) w'/\cH X β a w' F C I' M'/\K (put o.dst (.val u) F) C I' M'):bp X o F C I M K:=by
 refine⟨λa w Q ⟨β,a8⟩=>?_⟩;obtain⟨u,w',I',M',U,aa,ae⟩:=h β a w a8;exact i' cq U ⟨_,_,_,_,⟨β,aa.put (x:=.val u) ah rfl⟩,ae⟩
def agN(ah:o.dst=none)(cq:∀ c,o.op≠.defer c)
  (h:∀ (β:Nat->Nat) (a:Act) (w:World),cH X β a w F C I M->∃ w' I' M',(execOp a.eval o).run X.P w=.ok .skip w'/\cH X β a w' F C I' M'/\K F C I' M'):bp X o F C I M K:=by
 refine⟨λa w Q ⟨β,a8⟩=>?_⟩;obtain⟨w',I',M',U,aa,ae⟩:=h β a w a8;refine Cg cq U ⟨_,_,_,_,⟨β,?_⟩,ae⟩;rw[ah];exact aa
def W6(aP:cY X.P X.E)(ah:∀ d,o.dst=some d->d<X.n){r:Option Operand}(ar:o.op=.makeMap t r)(h:JP (X.E t) m=some (v,m'))(ao:∀ x,r=some x->∃ k n,bw F x=.val (.int k n))(hm:df (dR X G pr) D m I M)
  (k:rF X G pr D m I M v m' o.dst F C K):bp X o F C I M K:=by
 unfold JP at h;split at h
 ·rename_i sa sD sz fD e au;obtain⟨d,fy,eX⟩:=(aP _ _ au).fk;have U:d=.map fD e:=by cases d<;>simp_all[fj]
  subst U;obtain⟨e9,aa,ae⟩:=GH h;cases ae;refine W5 ah (by rw[ar];simp) fun β a w a8=>?_;refine⟨.map (some w.heap.size),w.alloc (.map #[] 0),I,⟨w.heap.size,.map #[] 0⟩::M,?_,a8.nu _,?_⟩
  ·unfold execOp;cases r with
   |none=>simp[ar,Instr.makeMap]| some x=>obtain⟨db,gm,ab⟩:=ao x rfl;have Na:=dq a8.aj ab;simp[ar,Na,Instr.makeMap,run_underlying fy,asInt,n5]
  ·have aF:∀ x∈M,x.num≠w.heap.size:=a8.holds.qT;refine k _ _ _ bH.DH (by simp only[aU];exact⟨_,bH.rD _ _ ⟨w.heap.size,0,0⟩,rfl⟩) (hm.new (a:=⟨w.heap.size,0,0⟩) aa aF ?_);exact .map [] 0 (by simp) .nil
 ·cases h
def lh.W7{D:bH}{a:Loc}{es:List (al×al)}(h:lh D E M a (.map es)):∃ l clock,(⟨a.b,.map l.toArray clock⟩:aE)∈M/\qA D es l:=by
 cases h with
 |map l clock U aa=>exact⟨l,clock,U,aa⟩
def aU.map'{id:Nat}(h:aU D (.m id) u):∃ a,D id=some a/\u=.map (some a.b):=by simpa only[aU]using h
def agO(aP:cY X.P X.E)(ah:∀ d,o.dst=some d->d<X.n){ok:Bool}(ar:o.op=.lookup t x y ok)(h:OR X.P X.E t m (dj aj x) (dj aj y) ok=some (v,m'))(H:iV D F aj o.op.operands.toList)
  (hm:df (dR X G pr) D m I M) (k:rF X G pr D m I M v m' o.dst F C K):bp X o F C I M K:=by
 unfold OR at h;split at h
 ·rename_i sa sD sz fD e id agP au U aa;obtain⟨wq,h⟩:=gF h;split at h
  ·rename_i es aB;obtain⟨r,ao,h⟩:=cL h;obtain⟨inf,hi,h⟩:=cL h;obtain⟨z,a1,h⟩:=cL h;obtain⟨sV,z8,h⟩:=cL h;cases h;obtain⟨d,fy,eX⟩:=(aP _ _ au).fk;have hI:d=.map fD e:=by cases d<;>simp_all[fj]
   subst hI;obtain⟨nb,vS,Bp⟩:=W0 aP wq;rw[ar]at H;obtain⟨uW,aC,aV⟩:=H.bw (x:=x) (by simp[Op.operands]) U;obtain⟨rE,ay,aX⟩:=H.bw (x:=y) (by simp[Op.operands]) aa;obtain⟨a,ax,rfl⟩:=aV.map';have he:=hm.iD _ _ _ aB ax;obtain⟨l,clock,bb,Pq⟩:=he.W7;have jL:=W2 Bp aX 0 Pq ao;have Kb:aU D sV z:=.of z8;have fin:∀ {q:Option (Nat×Value)},Instr.findNow nb rE l 0=some q->(r=none/\q=none\/∃ rv j w,r=some rv/\q=some (j,w)/\aU D rv w)->bp X o F C I M K:=fun {q} aF az=>by
    refine W5 ah (by rw[ar];simp) fun β ac w a8=>?_;have fw:=agJ (P:=X.P) (w:=w) fy vS (Bp.isKey aX) (a8.holds.m _ bb) aF hi a1 ok;have ex:=dq a8.aj aC;have ue:=dq a8.aj ay;refine⟨bif ok then .tuple #[(q.map (·.2)).getD z,.bool q.isSome]else(q.map (·.2)).getD z,w,I,M,?_,a8,k D _ M bH.oM ?_ hm⟩;·unfold execOp;simp only[ar,ex,ue,ca,fw,bR,c5]
    ·unfold Ws;rcases az with⟨rfl,rfl⟩ | ⟨rv,j,w',rfl,rfl,ai⟩
     ·cases ok
      ·exact Kb
      ·exact .J5 (.cons Kb (.cons (by simp only[aU];rfl) .nil))
     ·cases ok
      ·exact ai
      ·exact .J5 (.cons ai (.cons (by simp only[aU];rfl) .nil))
   cases r with
   |none=>exact fin jL (.inl ⟨rfl,rfl⟩)| some rv=>obtain⟨j,w,aF,ai⟩:=jL;exact fin aF (.inr ⟨rv,j,w,rfl,rfl,ai⟩)
  ·cases h
 ·cases h
def W8(aP:cY X.P X.E){z:Operand}(ar:o.op=.mapUpdate t x y z\/o.op=.insert t x y z)(h:b4 o.dst (Gv X.E t m (dj aj x) (dj aj y) (dj aj z)) (λ_=>none)=some (v,m'))(H:iV D F aj o.op.operands.toList)
  (hm:df (dR X G pr) D m I M) (k:rF X G pr D m I M v m' o.dst F C K):bp X o F C I M K:=by
 cases GI:o.dst with
 |some d=>rw[GI]at h;cases h
 |none=>
  rw[GI]at h k;have aq:Gv X.E t m (dj aj x) (dj aj y) (dj aj z)=some (v,m'):=h;have vv:∀ q,q=x\/q=y\/q=z->q∈o.op.operands.toList:=λq az=>by
   rcases ar with ar | ar<;>rw[ar]<;>simp[Op.operands]<;>exact az
  unfold Gv at aq;split at aq
  ·rename_i sa sD sz fD e id agP sV au U aa ae;obtain⟨wq,aq⟩:=gF aq;split at aq
   ·rename_i es aB;obtain⟨uY,k0,aq⟩:=cL aq;obtain⟨e9,aR,bn⟩:=be.oJ (some (fW.map uY)) m.t id;have mX:(m.t.nl (some (fW.map uY)) id λt=>some (al.t [],(⟨t,m.n⟩:bo)))=some (v,m'):=aq;rw[aR]at mX;cases mX;obtain⟨d,fy,eX⟩:=(aP _ _ au).fk;have hI:d=.map fD e:=by cases d<;>simp_all[fj]
    subst hI;obtain⟨nb,vS,Bp⟩:=W0 aP wq;obtain⟨uW,aC,aV⟩:=H.bw (x:=x) (vv x (.inl rfl)) U;obtain⟨rE,ay,aX⟩:=H.bw (x:=y) (vv y (.inr (.inl rfl))) aa;obtain⟨zw,bf,bq⟩:=H.bw (x:=z) (vv z (.inr (.inr rfl))) ae;obtain⟨a,ax,rfl⟩:=aV.map';have he:=hm.iD _ _ _ aB ax;obtain⟨l,clock,bb,Pq⟩:=he.W7;have fin:∀ (dg:List MapEntry) (Bq:Nat),qA D uY dg->(∀ w:World,w.heap[a.b]?=some (.map l.toArray clock)->(Instr.mapUpdate t (.map (some a.b)) rE zw).run X.P w=.ok () { w with heap:=w.heap.setIfInBounds a.b (.map dg.toArray Bq) }) ->
      bp X o F C I M K:=λdg Bq pW fw=>by
     obtain⟨a9,post,bZ⟩:=tB bb;have kd:M.Perm (⟨a.b,.map l.toArray clock⟩::(a9++post)):=by rw[bZ];exact rj
     refine agN GI (by rcases ar with ar | ar<;>rw[ar]<;>simp) fun β ac w lF=>?_;have a8:cH X β ac w F C I (⟨a.b,.map l.toArray clock⟩::(a9++post)):=lF.ir (.perm kd .refl);have xN:=lF.holds.m _ bb;have ex:=dq a8.aj aC;have ue:=dq a8.aj ay;have po:=dq a8.aj bf;have mz:=MapKept.heap_set (o':=Obj.map dg.toArray Bq) xN;refine⟨_,I,⟨a.b,.map dg.toArray Bq⟩::(a9++post),?_,a8.swap (w':={ w with heap:=w.heap.setIfInBounds a.b (.map dg.toArray Bq) }) (by simp) mz.1 mz.2 ⟨rfl,rfl⟩,?_⟩
     ·unfold execOp;rcases ar with ar | ar<;>simp only[ar,ex,ue,po,ca,fw w xN,bR,c5]
     ·have vz:∀ q∈M,q.num≠a.b->q∈(⟨a.b,.map dg.toArray Bq⟩:aE)::(a9++post):=λq az an=>by
       rcases et.1 (kd.mem_iff.1 az)with rfl | az;·exact(an rfl).elim
       ·exact nX _ az
      refine k D (.tuple #[]) _ bH.oM (by simp only[aU];exact⟨[],.nil,rfl⟩) ?_;refine hm.step (λi e hi=>(bn i e hi).imp (λq=>⟨q.1,oK q.2⟩) λq=>q) ax (bH.le_refl D) (λ_ _=>rfl) hm.jy (λ_ _ h=>h) (λi e bX bu hi nq q az an=>vz q az ?_) (.map dg Bq (by simp) pW) ?_;·rw[an];exact λag=>bu (hm.inj _ _ _ _ _ _ hi aB nq ax ag)
      ·exact λi e bX bu hi nq ag=>bu (hm.inj _ _ _ _ _ _ hi aB nq ax ag)
    rcases W3 Bp aX bq 0 Pq k0 with⟨aF,fx⟩ | ⟨j,a4,aF,ak,ap,xv⟩;·exact fin _ (clock+1) (fx clock) λw xN=>agK fy vS (Bp.isKey aX) xN aF
    ·rw[dK]at aF;have uj:a4.key=rE:=by
      cases Bp with
      |int=>
       have:=aX.int;subst this;cases af:a4.key<;>rw[af]at ap<;>simp[Instr.sameNow]at ap
       obtain⟨rfl,h⟩:=ap;rw[h]
      |str=>
       have:=aX.str;subst this;cases af:a4.key<;>rw[af]at ap<;>simp[Instr.sameNow,W1]at ap
       rw[ap]
     exact fin _ clock xv λw xN=>agL fy vS (Bp.isKey aX) xN aF ak uj
   ·cases aq
  ·cases aq
end
section
variable{X:cW}{G:GT}{pr:lP}{D:bH}{m m':bo}{F:Fr}{aj:be al}{C:dM}{I:aH}{M:List aE}{K:gg}{o:Oper}{v:al}
def W9(aP:cY X.P X.E)(ah:∀ d,o.dst=some d->d<X.n){s d:Nat}(ar:o.op=.convert s d x){dv ch:Nat}{sE:List Value}(ap:X.E s=some ⟨cg,b',tC,.slice e⟩)(hI:X.E d=some ⟨dv,ch,sE,.string⟩)(ag:Dq (X.E e)=true)
  {id off n:Nat} (h:JR G m id off n=some (v,m')) (ab:∃ a c,D id=some a/\bw F x=.val (.slice (some ⟨a.b,a.o+off,none⟩) n c)) (hm:df (dR X G pr) D m I M)
  (k:rF X G pr D m I M v m' o.dst F C K):bp X o F C I M K:=by
 unfold JR at h;obtain⟨a,c,ax,ex⟩:=ab;obtain⟨ad,l,vs,aC,bl,aw,h⟩:=zo (u:=.pointer (some ⟨a.b,a.o+off,none⟩)) hm (by simp only[aU];exact⟨a,ax,rfl⟩) h;cases aC;obtain⟨bs,iO,h⟩:=cL h;cases h;have im:=Pp iO aw;have bY:bs.length=n:=by have:=bl.2;obtain⟨_,_,_,_,_,aa⟩:=this;rw[<-aa,im];simp
 subst im;obtain⟨aJ,he,k0⟩:∃ aJ,X.E e=some aJ/\aJ.bK=.int .u8:=by
  unfold Dq at ag;split at ag;·rename_i h;exact⟨_,h,rfl⟩
  ·cases ag
 refine bp.C8 aP ar ah ap rfl he k0 hI rfl ex bY bl ?_;exact k D _ M bH.oM (by simp only[aU]) hm
def agQ(aP:cY X.P X.E)(ah:∀ d,o.dst=some d->d<X.n){s d:Nat}(ar:o.op=.convert s d x)(h:JS (dR X G pr) m s d (dj aj x)=some (v,m'))(H:iV D F aj o.op.operands.toList)(hm:df (dR X G pr) D m I M)
  (k:rF X G pr D m I M v m' o.dst F C K):bp X o F C I M K:=by
 unfold JS at h;rw[ar]at H;split at h
 ·rename_i U aa ae;obtain⟨ag,h⟩:=gF h;obtain⟨u,aC,aV⟩:=H.bw (x:=x) (by simp[Op.operands]) ae;obtain⟨a,ax,rfl⟩:=aV.sC;exact W9 aP ah ar U aa ag h ⟨a,_,ax,aC⟩ hm k
 ·rename_i U aa ae;obtain⟨ag,h⟩:=gF h;obtain⟨u,aC,aV⟩:=H.bw (x:=x) (by simp[Op.operands]) ae;obtain⟨a,ax,_,rfl⟩:=aV.uT;exact W9 aP ah ar U aa ag h ⟨a,_,ax,aC⟩ hm k
 ·rename_i U aa ae;obtain⟨ag,h⟩:=gF h;obtain⟨u,aC,aV⟩:=H.bw (x:=x) (by simp[Op.operands]) ae;cases h;simp only[aU]at aV;subst aV;obtain⟨aJ,he,k0⟩:∃ aJ,X.E _=some aJ/\aJ.bK=.int .u8:=by
   unfold Dq at ag;split at ag;·rename_i h;exact⟨_,h,rfl⟩
   ·cases ag
  refine bp.aeP aP ar ah U rfl he k0 aa rfl aC ?_;exact k D _ M bH.oM (by simp only[aU]) hm
 ·cases h
def W'(q:List UInt8):bM D (q.map λb=>al.i .u8 (.ofNat b.toNat)) (kZ ⟨q.toArray⟩):=by
 unfold kZ;simp only
 induction q with
 |nil=>exact .nil| cons b q bc=>exact .cons (by simp only[aU];rfl) bc
def Kc{l:List Operand}{a b:al}(h:nW aj l=some [a,b]):∃ x y,l=[x,y]/\dj aj x=some a/\dj aj y=some b:=by
 match l,h with
 |[],h=>simp[nW]at h
 |[x],h=>
  simp only[nW]at h;split at h;·rename_i aC ay;cases ay;cases h
  ·cases h
 |[x,y],h=>
  simp only[nW]at h;split at h
  ·rename_i aC ay;split at ay
   ·rename_i bf b3;cases b3;cases ay;cases h;exact⟨x,y,rfl,aC,bf⟩
   ·cases ay
  ·cases h
 |x::y::z::l,h=>
  simp only[nW]at h;split at h
  ·rename_i aC ay;split at ay
   ·rename_i bf b3;split at b3
    ·cases b3;cases ay;cases h
    ·cases b3
   ·cases ay
  ·cases h
def df.sub{M':List aE}(h:df (dR X G pr) D m I M)(ap:∀ x∈M,x∈M'):df (dR X G pr) D m I M':=
 ⟨λid e a hi ax=>(h.iD id e a hi ax).mono (bH.le_refl D) (λx ab _=>ap x ab),h.inj,h.jy,h.qy⟩
def agR(aP:cY X.P X.E)(ah:∀ d,o.dst=some d->d<X.n)(ar:o.op=.call { callee:=.builtin .copy,args:=args,argTypes:=ts })(h:OT (dR X G pr) m ts.toList (nW aj args.toList)=some (v,m'))
  (H:iV D F aj args.toList) (hm:df (dR X G pr) D m I M) (k:rF X G pr D m I M v m' o.dst F C K):bp X o F C I M K:=by
 unfold OT at h;split at h
 ·rename_i t u id off n c q au aw;split at h
  ·rename_i sa sD sz e oa;obtain⟨aJ,he,h⟩:=cL h;obtain⟨ag,h⟩:=gF h;rw[cA]at ag;obtain⟨m2,aa,-,-,ae⟩:=Po (Y:=dR X G pr) h;cases aa;obtain⟨x,y,l9,wu,Kd⟩:=Kc aw;obtain⟨uW,ab,aX⟩:=H.bw (x:=x) (by rw[l9];simp) wu;obtain⟨rE,aG,eK⟩:=H.bw (x:=y) (by rw[l9];simp) Kd;obtain⟨a,ax,rfl⟩:=aX.sC;have agS:=eK.str;subst agS;obtain⟨g,HW,a9,post,arr,T,bf,bb,fP,h3,⟨ih,a4,jz,lQ,xm,aB⟩,mi⟩:=ae hm (u:=.pointer (some ⟨a.b,a.o+off,none⟩)) (by simp only[aU];exact⟨a,ax,rfl⟩) (W' q);cases bf;have kd:M.Perm (⟨a.b,.cells arr T (0,0)⟩::(a9++post)):=by rw[bb];exact rj
   have Br:args=#[x,y]:=by apply gG;simpa using l9
   have Bs:ts=#[t,u]:=by apply gG;simpa using au
   have cr:(⟨q.toArray⟩:ByteArray).size=q.length:=by simp[ByteArray.size]
   have l1:(kZ ⟨q.toArray⟩).length=q.length:=by simp[kZ]
   refine bp.SL aP (by rw[ar,Br,Bs]) ah oa rfl he (cM ag.1) ab aG (by rw[cr];exact bN ag.2) (by rw[cr,<-l1];exact fP) kd ?_;rw[cr];have agT:(a9++(⟨a.b,.cells (bO arr.toList (a.o+off) (kZ ⟨q.toArray⟩)).toArray T (0,0)⟩:aE)::post).Perm (⟨a.b,.cells (bO arr.toList (a.o+off) (kZ ⟨q.toArray⟩)).toArray T (0,0)⟩::(a9++post)):=rj;exact k D (.int .i64 q.length) _ bH.oM (by simp only[aU];rfl) (mi.sub λx ab=>agT.mem_iff.1 ab)
  ·cases h
 ·cases h
end
section
variable{P:Program}{w:World}
def Xa(t u ty e:Nat)(i:TypeInfo)(au:P.underlying t=some (.slice e))(hu:P.underlying u=some mC)(o6:∀ k,mC≠.int k)(hi:P.info? e=some i)
 {g n c T:Nat} {arr:Array Value} (aB:w.heap[g]?=some (.cells arr T (0,0))) {x:Value} (U:∀ v∈bV,v.oneCell'=true)
  (bY:∀ w',(Builtin.lenOf x).run P w'=.ok m w') (fx:(Builtin.firstCells i.size m x).run P w=.ok bV.toArray w) (q7:n+m<=c) (fP:off+n*i.size+bV.length<=arr.size) :
  (Builtin.append_ #[t,u] ty #[.slice (some ⟨g,off,none⟩) n c,x]).run P w=.ok (.slice (some ⟨g,off,none⟩) (n+m) c) (w.setRow g (bO arr.toList (off+n*i.size) bV).toArray):=by
 have Fl:(match mC with | .int _=>true | _=>false)=false:=by cases mC<;>first | rfl | exact(o6 _ rfl).elim
 have cf:=run_storeCells_at P g (off+n*i.size) T bV 0 arr w aB (by simpa using fP) U;simp only[rW]at cf;have Ok:(Addr.add ⟨g,off,none⟩ (n*i.size))=⟨g,off+n*i.size,none⟩:=ei _ rfl _;simp[Builtin.append_,run_underlying au,run_underlying hu,sizeOf,typeInfo,hi,bY,q7,fx,Ok,cf,bO]
def agU(t u ty e:Nat)(i:TypeInfo)(z:Value)(au:P.underlying t=some (.slice e))(hu:P.underlying u=some mC)(o6:∀ k,mC≠.int k)(hi:P.info? e=some i)(a1:i.zero=some z)(p6:z.cells.size=i.size)
 {n c:Nat} (hold:(Builtin.firstCells i.size n (.slice a0 n c)).run P w.drew=.ok xs.toArray w.drew) (pI:xs.length=n*i.size) {x:Value} (aw:bV.length=m*i.size)
  (bY:∀ w',(Builtin.lenOf x).run P w'=.ok m w') (fx:(Builtin.firstCells i.size m x).run P w.drew=.ok bV.toArray w.drew) (q7:c<n+m) (b':n+m<=maxLen) (ch:(n+m)*i.bytes<=140737488355328) :
  ∃ cap aS,(Builtin.append_ #[t,u] ty #[.slice a0 n c,x]).run P w=.ok (.slice (some ⟨w.heap.size,0,none⟩) (n+m) cap) (w.drew.alloc (.cells (xs++bV++aS).toArray e (0,0)))/\n+m<=cap/\cap<=maxLen/\(xs++bV++aS).length=cap*i.size:=by
 have Fl:(match mC with | .int _=>true | _=>false)=false:=by cases mC<;>first | rfl | exact(o6 _ rfl).elim
 have an:¬ (n+m<=c):=by omega
 have mD:n+m<=9223372036854775807:=by simp only[maxLen]at b';exact b'
 have Ar:¬ (9223372036854775807<((n:Int)+(m:Int))):=by omega
 have As:¬ (281474976710656<Builtin.nextslicecap (n+m) c*i.bytes):=by have:=growslice_fits (by omega:c<n+m) ch;omega
 have cI:=grownCap_ge w (n+m) c e;have kv:grownCap w (n+m) c e<=maxLen:=grownCap_le_maxLen w (n+m) c e b';refine⟨grownCap w (n+m) c e,(Builtin.zeroCells z.cells (grownCap w (n+m) c e-(n+m))).toList,?_,cI,kv,?_⟩
 ·simp[Builtin.append_,run_underlying au,run_underlying hu,sizeOf,typeInfo,zeroValue,hi,a1,bY,an,Ar,As,Question.forced,fx,hold,newRow,grownCap];congr 2;apply gG;simp
 ·rw[b5,b5,pI,aw,ym,size_zeroCells,p6,<-iJ,<-iJ];congr 1;omega
end
section
variable{X:cW}{G:GT}{pr:lP}{D:bH}{m m':bo}{F:Fr}{aj:be al}{C:dM}{I:aH}{M:List aE}{K:gg}{o:Oper}{v:al}
def bD.GL{n:Nat}(h:bD I M ad n vs){w:World}(jn:ef I M w)(j:Nat)(v:Value)(ak:vs[j]?=some v):w.cell? (ad.add j)=some v:=by
 obtain⟨bZ,cs,T,aj,eg,ai,aw⟩:=h;rw[ei _ bZ,tU (eg.heap jn)];rw[<-ai,lW]at ak;split at ak
 ·rw[qO]at ak;simpa using ak
 ·cases ak
def agV{x:al}{k:Nat}{R:Type}{K:List al->Option R}{r:R}(h:Dr G m.t x aJ.size K=some r)(ap:wk ut aJ x=true)(ab:aU D x u)(hm:df (dR X G pr) D m I M)(af:sA x=some k)(aq:k≠0) :
  ∃ l vs,K l=some r/\bM D l vs/\(∀ w',(Builtin.lenOf u).run X.P w'=.ok k w')/\(∀ w,ef I M w->(Builtin.firstCells aJ.size k u).run X.P w=.ok vs.toArray w)/\vs.length=k*aJ.size /\
   ((∃ a b z e,ut=some ⟨a,b,z,.slice e⟩)\/∃ a b z,ut=some ⟨a,b,z,.string⟩):=by
 have Pr:(∃ a b z e,ut=some ⟨a,b,z,.slice e⟩)\/∃ a b z,ut=some ⟨a,b,z,.string⟩:=by
  unfold wk at ap;split at ap<;>first | exact .inl ⟨_,_,_,_,rfl⟩ | exact .inr ⟨_,_,_,rfl⟩ | cases ap
 cases x<;>simp only[Dr]at h<;>first | cases h | skip
 case sn=>simp[sA,wj]at af;exact(aq af.symm).elim
 case so=>simp[sA,wj]at af;exact(aq af.symm).elim
 case sl id off n c=>
  simp only[sA,wj,lx]at af;subst af;obtain⟨a,ax,rfl⟩:=ab.sC;obtain⟨ad,l,vs,aC,bl,aw,h⟩:=zo (u:=.pointer (some ⟨a.b,a.o+off,none⟩)) hm (by simp only[aU];exact⟨a,ax,rfl⟩) h;cases aC;have zx:=bl;obtain⟨_,_,_,_,_,_,bY⟩:=zx;exact⟨l,vs,h,aw,λ_=>rfl,λw hw=>run_firstCells_some (P:=X.P) w aJ.size n _ n c vs bY (λj v ak=>bl.GL hw j v ak),bY,Pr⟩
 case sx id off e n=>
  simp only[sA,wj,lx]at af;subst af;obtain⟨a,ax,_,rfl⟩:=ab.uT;obtain⟨ad,l,vs,aC,bl,aw,h⟩:=zo (u:=.pointer (some ⟨a.b,a.o+off,none⟩)) hm (by simp only[aU];exact⟨a,ax,rfl⟩) h;cases aC;have zx:=bl;obtain⟨_,_,_,_,_,_,bY⟩:=zx;exact⟨l,vs,h,aw,λ_=>rfl,λw hw=>run_firstCells_some (P:=X.P) w aJ.size n _ n _ vs bY (λj v ak=>bl.GL hw j v ak),bY,Pr⟩
 case s q=>
  simp only[sA,lx]at af;subst af;have agW:aJ.size=1:=by
   unfold wk at ap;split at ap<;>first | exact cM ap | (rename_i e;cases e) | cases ap
  have:=ab.str;subst this;have az:(⟨q.toArray⟩:ByteArray).size=q.length:=by simp[ByteArray.size]
  refine⟨_,kZ ⟨q.toArray⟩,h,W' q,λw=>?_,λw hw=>?_,by simp[kZ,agW],Pr⟩;·show Result.ok _ _=_;rw[az]
  ·have:=R' w aJ.size (P:=X.P) ⟨q.toArray⟩;rw[az]at this;exact this
def Ps(aP:cY X.P X.E)(ah:∀ d,o.dst=some d->d<X.n){s:Operand}{u:Nat}(ar:o.op=.call { callee:=.builtin .append,args:=#[s,x],argTypes:=#[t,u] })
 (au:X.E t=some ⟨cg,b',tC,.slice e⟩) (hu:X.E u=some l0) (fu:∀ k,l0.bK≠.int k) (he:X.E e=some aJ)
 {n c k:Nat} {Pt:Value} (ap:bw F s=.val (.slice a0 n c)) (ab:bw F x=.val Pt) (pI:xs.length=n*aJ.size) (ub:bV.length=k*aJ.size) (U:gI bV=true)
  (bY:∀ w',(Builtin.lenOf Pt).run X.P w'=.ok k w') (fx:∀ w,ef I M w->(Builtin.firstCells aJ.size k Pt).run X.P w=.ok bV.toArray w)
  (hold:∀ w,ef I M w->(Builtin.firstCells aJ.size n (.slice a0 n c)).run X.P w=.ok xs.toArray w) (b':n+k<=maxLen) (ch:(n+k)*aJ.bytes<=140737488355328)
  (agX:n+k<=c->∃ g off T arr a9 post,a0=some ⟨g,off,none⟩/\M=a9++⟨g,.cells arr T (0,0)⟩::post/\off+n*aJ.size+bV.length<=arr.size /\ K (put o.dst (.val (.slice a0 (n+k) c)) F) C I (a9++⟨g,.cells (bO arr.toList (off+n*aJ.size) bV).toArray T (0,0)⟩::post))
  (agY:c<n+k->∀ b cap aS,I b=none->(∀ y∈M,y.num≠b)->n+k<=cap->cap<=maxLen->(xs++bV++aS).length=cap*aJ.size ->
   K (put o.dst (.val (.slice (some ⟨b,0,none⟩) (n+k) cap)) F) C I (⟨b,.cells (xs++bV++aS).toArray e (0,0)⟩::M)):bp X o F C I M K:=by
 refine⟨λa w Q ⟨β,a8⟩=>?_⟩;obtain⟨inf,z,hi,eA,gw,gW,iG⟩:=(aP _ _ he).inf;obtain⟨d,fy,eX⟩:=(aP _ _ hu).fk;obtain⟨kw,nH,js⟩:=(aP _ _ au).fk;have p7:kw=.slice e:=by cases kw<;>simp_all[fj]
 subst p7;have p6:z.cells.size=inf.size:=by rw[eA,<-(aP _ _ he).len,<-iG];simp
 have es:=dq a8.aj ap;have ex:=dq a8.aj ab;have o6:∀ k,d≠.int k:=λk a4=>fu k (by rw[<-eX,a4];rfl);rw[<-eA]at pI ub hold fx;by_cases q7:n+k<=c
 ·obtain⟨g,off,T,arr,a9,post,rfl,bb,fP,af⟩:=agX q7;rw[<-eA]at fP af;have aB:w.heap[g]?=some (.cells arr T (0,0)):=a8.holds.m ⟨g,.cells arr T (0,0)⟩ (by rw[bb];simp);have fw:=Xa (P:=X.P) (w:=w) t u o.type e inf nH fy o6 hi aB (z1 U) bY (fx w a8.holds) q7 fP;refine i' (by rw[ar];simp) ?_ ⟨_,_,_,_,⟨β,cH.put (x:=.val (.slice (some ⟨g,off,none⟩) (n+k) c)) (a8.yb bb) ah rfl⟩,af⟩;unfold execOp;simp only[ar,resolve,invoke,builtin,ca,c5,bR,s4,ek,p0,es,ex,fw]
 ·have jn:ef I M w.drew:=a8.holds.heap rfl;obtain⟨cap,aS,fw,aa,ae,aR⟩:=agU (P:=X.P) (w:=w) t u o.type e inf z nH fy o6 hi gW p6 (hold w.drew jn) pI ub bY (fx w.drew jn) (by omega) b' (by rw[gw];exact ch);have q8:cH X β a w.drew F C I M:=a8.world rfl;rw[eA]at aR;refine i' (by rw[ar];simp) ?_ ⟨_,_,_,_,⟨β,cH.put (x:=.val (.slice (some ⟨w.heap.size,0,none⟩) (n+k) cap)) (q8.nu (.cells (xs++bV++aS).toArray e (0,0))) ah rfl⟩,agY (by omega) w.heap.size cap aS a8.holds.rZ a8.holds.qT aa ae aR⟩;unfold execOp;simp only[ar,resolve,invoke,builtin,ca,c5,bR,s4,ek,p0,es,ex,fw]
def Xb{u:Nat}{x:al}(h:wk (X.E u) aJ x=true):∃ l0,X.E u=some l0/\∀ k,l0.bK≠.int k:=by
 unfold wk at h;split at h<;>first | (cases h;done) | (rename_i e;exact⟨_,e,by simp⟩) | (rename_i e _;exact⟨_,e,by simp⟩) | (rename_i e _ _;exact⟨_,e,by simp⟩)
def agZ{s:al}(h:Dt s=true)(ap:aU D s u):∃ a n c,u=.slice a n c/\n<=c:=by
 cases s<;>simp only[Dt,j0]at h
 case sn=>exact⟨_,_,_,ap.Bn,b1 _⟩
 case so=>obtain⟨a,c,rfl⟩:=ap.J3;exact⟨_,_,_,rfl,bi _⟩
 case sl=>obtain⟨a,_,rfl⟩:=ap.sC;exact⟨_,_,_,rfl,bN h⟩
 case sx=>obtain⟨a,_,bk,rfl⟩:=ap.uT;exact⟨_,_,_,rfl,by omega⟩
def ag0{x:al}(ap:wk ut aJ x=true)(ab:aU D x u)(af:sA x=some 0):(∃ b c,u=.slice b 0 c)\/u=.string .empty:=by
 cases x<;>simp[sA,wj]at af
 case sn=>exact .inl ⟨_,_,ab.Bn⟩
 case so=>obtain⟨a,c,rfl⟩:=ab.J3;exact .inl ⟨_,_,rfl⟩
 case sl=>subst af;obtain⟨a,_,rfl⟩:=ab.sC;exact .inl ⟨_,_,rfl⟩
 case sx=>subst af;obtain⟨a,_,_,rfl⟩:=ab.uT;exact .inl ⟨_,_,rfl⟩
 case gs=>subst af;exact .inl ⟨_,_,ab.O'⟩
 case s=>subst af;exact .inr ab.str
noncomputable abbrev Pu(X:cW)(G:GT)(m:bo)(s x:al)(aJ:dU)(kn e:Nat):List al->Option (al×bo):=λl=>b4 (some kn) none λk=>b7 (Nat.beq k 0) (b7 (Dt s) (some (s,m)) none) (b7 (l.all al.one) (zg G m s l k aJ.size aJ.bytes e) none)
def ag1(aP:cY X.P X.E)(ah:∀ d,o.dst=some d->d<X.n){u:Nat}(ar:o.op=.call { callee:=.builtin .append,args:=#[os,qB],argTypes:=#[t,u] })
 (au:X.E t=some ⟨cg,b',tC,.slice e⟩) {s x:al} (rA:wk (X.E u) aJ x=true) (he:X.E e=some aJ) (af:sA x=some 0)
  (es:bw F os=.val us) (gs:aU D s us) (ex:bw F qB=.val lY) (zy:aU D x lY) (h:Dr G m.t x aJ.size (Pu X G m s x aJ 0 e)=some (v,m'))
  (hm:df (dR X G pr) D m I M) (k:rF X G pr D m I M v m' o.dst F C K):bp X o F C I M K:=by
 have aa:∃ l,Pu X G m s x aJ 0 e l=some (v,m'):=by
  cases x<;>simp only[Dr]at h<;>first | cases h | exact⟨_,h⟩ | skip
  case sl=>obtain⟨a,ax,rfl⟩:=zy.sC;obtain⟨_,l,_,_,_,_,h⟩:=zo (u:=.pointer (some ⟨a.b,a.o+_,none⟩)) hm (by simp only[aU];exact⟨a,ax,rfl⟩) h;exact⟨l,h⟩
  case sx=>obtain⟨a,ax,_,rfl⟩:=zy.uT;obtain⟨_,l,_,_,_,_,h⟩:=zo (u:=.pointer (some ⟨a.b,a.o+_,none⟩)) hm (by simp only[aU];exact⟨a,ax,rfl⟩) h;exact⟨l,h⟩
 obtain⟨l,aa⟩:=aa;have ae:b7 (Dt s) (some (s,m)) none=some (v,m'):=aa;obtain⟨aN,ae⟩:=gF ae;cases ae;obtain⟨a,n,c,rfl,nG⟩:=agZ aN gs;obtain⟨l0,hu,fu⟩:=Xb rA;exact bp.ME aP ar ah au rfl hu fu he es nG ex (ag0 rA zy af) (k D _ M bH.oM gs hm)
def ag2(aP:cY X.P X.E)(ah:∀ d,o.dst=some d->d<X.n){u:Nat}(ar:o.op=.call { callee:=.builtin .append,args:=#[os,qB],argTypes:=#[t,u] })
 (au:X.E t=some ⟨cg,b',tC,.slice e⟩) (hu:X.E u=some l0) (fu:∀ k,l0.bK≠.int k) (he:X.E e=some aJ) {id off n c kn:Nat}
  (es:bw F os=.val us) (gs:aU D (.sl id off n c) us) (ex:bw F qB=.val lY) {l:List al} (h:OP G m id off n c l kn aJ.size e=some (v,m')) (mD:n+kn<=maxLen) (kq:(n+kn)*aJ.bytes<=140737488355328)
  (aw:bM D l vs) (sr:vs.length=kn*aJ.size) (U:gI vs=true) (bY:∀ w',(Builtin.lenOf lY).run X.P w'=.ok kn w') (fx:∀ w,ef I M w->(Builtin.firstCells aJ.size kn lY).run X.P w=.ok vs.toArray w)
  (hm:df (dR X G pr) D m I M) (k:rF X G pr D m I M v m' o.dst F C K):bp X o F C I M K:=by
 have GM:∀ {q:List Value} {c:Nat},q.length=c*aJ.size->∀ i,(dR X G pr).E e=some i->q.length=c*i.size:=λaz i hi=>by have:X.E e=some i:=hi;rw[he]at this;cases this;exact az
 obtain⟨a,ax,rfl⟩:=gs.sC;unfold OP at h;by_cases ao:n+kn<=c
 ·have ag:Nat.ble (Nat.add n kn) c=true:=AR ao;rw[ag]at h;have bh:xJ m (.p id (Nat.add off (Nat.mul n aJ.size))) l (λm=>some (al.sl id off (Nat.add n kn) c,m))=some (v,m'):=h;obtain⟨m2,aa,-,-,ae⟩:=Po (Y:=dR X G pr) bh;cases aa;obtain⟨g,HW,a9,post,arr,T,aC,bb,fP,h3,⟨ih,a4,jz,lQ,xm,aB⟩,mi⟩:=ae hm (u:=.pointer (some ⟨a.b,a.o+(off+n*aJ.size),none⟩)) (by simp only[aU];exact⟨a,ax,rfl⟩) aw;cases aC;refine⟨λac w Q ⟨β,a8⟩=>?_⟩;obtain⟨inf,z,hi,eA,gw,gW,iG⟩:=(aP _ _ he).inf;obtain⟨d,fy,eX⟩:=(aP _ _ hu).fk;obtain⟨kw,nH,js⟩:=(aP _ _ au).fk;have p7:kw=.slice e:=by cases kw<;>simp_all[fj]
  subst p7;have aB:w.heap[a.b]?=some (.cells arr T (0,0)):=a8.holds.m ⟨a.b,.cells arr T (0,0)⟩ (by rw[bb];simp);have uY:=dq a8.aj es;have Bt:=dq a8.aj ex;rw[<-eA]at fx;have fw:=Xa (P:=X.P) (w:=w) t u o.type e inf nH fy (λk a4=>fu k (by rw[<-eX,a4];rfl)) hi aB (z1 U) bY (fx w a8.holds) ao (off:=a.o+off) (by rw[eA];omega);rw[eA,pR]at fw;have q8:=a8.yb (cs':=(bO arr.toList (a.o+(off+n*aJ.size)) vs).toArray) bb;refine i' (by rw[ar];simp) ?_ ⟨_,_,_,_,⟨β,cH.put (x:=.val (.slice (some ⟨a.b,a.o+off,none⟩) (n+kn) c)) q8 ah rfl⟩,?_⟩;·unfold execOp;simp only[ar,resolve,invoke,builtin,ca,c5,bR,s4,ek,p0,uY,Bt,fw]
  ·exact k D _ _ bH.oM (by simp only[aU];exact⟨a,ax,rfl⟩) mi
 ·have ag:Nat.ble (Nat.add n kn) c=false:=by
   cases ag:Nat.ble (Nat.add n kn) c with
   |false=>rfl| true=>exact absurd (bN ag) ao
  rw[ag]at h;have bh:wi G m.t (.p id off) (Nat.mul n aJ.size) (λc2=>uQ m (c2++l) e λid m=>some (al.sx id 0 0 (Nat.add n kn),m))=some (v,m'):=h;obtain⟨ad,c2,xs,aC,bl,eS,aa⟩:=zo (u:=.pointer (some ⟨a.b,a.o+off,none⟩)) hm (by simp only[aU];exact⟨a,ax,rfl⟩) bh;cases aC;obtain⟨m2,b2,an,eh⟩:=Pl (Y:=dR X G pr) aa;cases b2;have zx:=bl;obtain⟨_,_,_,_,_,_,hb⟩:=zx;refine Ps aP ah ar au hu fu he es ex hb sr U bY fx (λw hw=>run_firstCells_some (P:=X.P) w aJ.size n _ n c xs hb (λj v ak=>bl.GL hw j v ak)) mD kq (λgh=>(ao gh).elim) λ_ b cap aS bx aF sF Bu GN=>?_;refine k _ _ _ bH.DH ?_ (eh aS hm aF (eS.append aw) (GM GN) Bu);simp only[aU];exact⟨_,bH.rD _ _ _,by simpa using sF,by simp⟩
def ag3(aP:cY X.P X.E)(ah:∀ d,o.dst=some d->d<X.n){u:Nat}(ar:o.op=.call { callee:=.builtin .append,args:=#[os,qB],argTypes:=#[t,u] })
 (au:X.E t=some ⟨cg,b',tC,.slice e⟩) (hu:X.E u=some l0) (fu:∀ k,l0.bK≠.int k) (he:X.E e=some aJ) {id n fh kn:Nat} {cs:be al}
  (es:bw F os=.val us) (gs:aU D (.sx id 0 0 n) us) (ex:bw F qB=.val lY) (aB:m.t.get id=some (.cells cs e fh)) {l:List al} (h:OQ m id n cs fh l kn aJ.size e=some (v,m')) (mD:n+kn<=maxLen) (kq:(n+kn)*aJ.bytes<=140737488355328)
  (aw:bM D l vs) (sr:vs.length=kn*aJ.size) (U:gI vs=true) (bY:∀ w',(Builtin.lenOf lY).run X.P w'=.ok kn w') (fx:∀ w,ef I M w->(Builtin.firstCells aJ.size kn lY).run X.P w=.ok vs.toArray w)
  (hm:df (dR X G pr) D m I M) (k:rF X G pr D m I M v m' o.dst F C K):bp X o F C I M K:=by
 obtain⟨a,ax,bk,rfl⟩:=gs.uT;have pU:=hm.iD _ _ _ aB ax;obtain⟨arr,xO,bb,cr,aN,af,e8⟩:=pU;unfold OQ at h;obtain⟨uX,h⟩:=gF h;have Xc:n*aJ.size<=fh:=bN uX;obtain⟨t1,aa,ae⟩:=be.oJ (none:Option fW) m.t id;rw[aa]at h;obtain⟨cs',aR,bn⟩:=be.xL l cs (Nat.mul n aJ.size);have bh:be.xF l cs (Nat.mul n aJ.size) (λcs=>Bh (⟨t1,m.n⟩:bo) (.cells cs e (Nat.mul (Nat.add n kn) aJ.size)) λid m=>some (al.sx id 0 0 (Nat.add n kn),m))=some (v,m'):=h;rw[aR]at bh;obtain⟨t2,b2,eh⟩:=GH bh;cases eh;have mH:∀ i e',t1.get i=some e'->i≠id/\m.t.get i=some e':=λi e' hi=>by
  rcases ae i e' hi with⟨_,fg⟩ | fg;·cases fg
  ·exact fg
 have Xd:df (dR X G pr) D ⟨t1,m.n⟩ I M:=⟨λi e' b hi=>hm.iD i e' b (mH i e' hi).2,λi fX e' zz b iq hi dw=>hm.inj i fX e' zz b iq (mH i e' hi).2 (mH fX zz dw).2,hm.jy,hm.qy⟩;have Xe:arr.size=a.c*aJ.size:=by have:=af aJ he;rw[xO,dK]at this;exact this
 have J1:=aw.len;have pI:((arr.toList.take (n*aJ.size)).length=n*aJ.size):=by rw[mV,ym];omega
 have xu:∀ j,j<n*aJ.size->∀ v,cs.get j=some v->∃ x,(arr.toList.take (n*aJ.size))[j]?=some x/\aU D v x:=λj ak v ai=>by obtain⟨x,aV,aX⟩:=aN j v (by omega) ai;rw[xO,dK]at aV;exact⟨x,by rw[lW,dd ak];simpa using aV,aX⟩
 have Xf:∀ (br:bH) (M':List aE) (b e4:Nat) (a6:List Value),D.le br->(⟨b,.cells (arr.toList.take (n*aJ.size)++vs++a6).toArray e (0,0)⟩:aE)∈M'->(arr.toList.take (n*aJ.size)++vs++a6).length=e4*aJ.size->e4<=maxLen ->
   lh br X.E M' ⟨b,0,e4⟩ (.cells cs' e (Nat.mul (Nat.add n kn) aJ.size)):=by
  intro br M' b e4 a6 dr A7 VR pJ;have hmul:(n+kn)*aJ.size=n*aJ.size+kn*aJ.size:=iJ _ _ _;refine .cells _ rfl A7 ?_ (λi v hi GK=>?_) (λi hi=>?_) pJ;·show 0+(n+kn)*aJ.size<=_;rw[qY,b5,b5,pI,sr];omega
  ·have dw:i<n*aJ.size+kn*aJ.size:=by have:i<(n+kn)*aJ.size:=hi;omega
   simp only[dK,Af];rcases bn i v GK with⟨aV,aX⟩ | ⟨aV,aX⟩;·have Ke:n*aJ.size<=i:=aV;obtain⟨x,bq,eK⟩:=aw.get (i:=i-n*aJ.size) aX;refine⟨x,?_,eK.mono dr⟩;rw[eL,pd (by omega),pI,oX (by omega)];exact bq
   ·have Ke:i<n*aJ.size:=by
     rcases aV with aV | aV;·exact aV
     ·have:n*aJ.size+l.length<=i:=aV;omega
    obtain⟨x,bq,eK⟩:=xu i Ke v aX;refine⟨x,?_,eK.mono dr⟩;rw[eL,oX (by omega)];exact bq
  ·rw[he]at hi;cases hi;simpa using VR
 refine Ps aP ah ar au hu fu he es ex pI sr U bY fx (λw hw=>?_) mD kq (λao=>?_) λ_ b cap aS bx aF sF Bu GN=>?_
 ·refine run_firstCells_some (P:=X.P) w aJ.size n _ n _ _ pI λj v ak=>?_;rw[ei _ rfl,tU (hw.m _ bb)];rw[lW]at ak;split at ak
  ·rw[xO];simpa using ak
  ·cases ak
 ·
  obtain⟨a9,post,bZ⟩:=tB bb;rw[zp]at ao;have fP:a.o+0+n*aJ.size+vs.length<=arr.size:=by have ew:=rV aJ.size ao;rw[iJ]at ew;rw[xO,Xe,sr];omega
  refine⟨a.b,a.o+0,e,arr,a9,post,rfl,bZ,fP,?_⟩;have Xg:bO arr.toList (a.o+0+n*aJ.size) vs=arr.toList.take (n*aJ.size)++vs++arr.toList.drop (n*aJ.size+vs.length):=by rw[xO];simp only[bO,dK]
  rw[Xg];have vz:∀ q∈M,q.num≠a.b->q∈a9++(⟨a.b,.cells (arr.toList.take (n*aJ.size)++vs++arr.toList.drop (n*aJ.size+vs.length)).toArray e (0,0)⟩:aE)::post:=λq az an=>by
   rw[bZ]at az;rcases dW.1 az with az | az;·exact dW.2 (.inl az)
   ·rcases et.1 az with rfl | az
    ·exact(an rfl).elim
    ·exact dW.2 (.inr (nX _ az))
  have GO:∀ i e' b,t1.get i=some e'->D i=some b->b.b≠a.b:=λi e' b hi ag v'=>(mH i e' hi).1 (hm.inj _ _ _ _ _ _ (mH i e' hi).2 aB ag ax v');refine k _ _ _ bH.DH ?_ (Xd.step (m:=⟨t1,m.n⟩) (j:=m.n) (λi e' hi=>(b2 i e' hi).imp (λq=>⟨q.1,oK q.2⟩) λq=>q) (D.rD _ ⟨a.b,0,a.c⟩) (bH.zr _ hm.fresh) (λi hi=>by unfold bH.set;rw[cG hi]) (λi b ag=>?_) (λ_ _ h=>h) (λi e' b bu hi ag q az an=>vz q az (by rw[an];exact GO i e' b hi ag)) (Xf _ _ _ _ (arr.toList.drop (n*aJ.size+vs.length)) (bH.zr _ hm.fresh) (by simp) ?_ e8) λi e' b bu hi ag=>GO i e' b hi ag);·simp only[aU];exact⟨_,bH.rD _ _ _,by simpa using ao,by rw[xO];rfl⟩
  ·unfold bH.set at ag;split at ag
   ·show i<m.n+1;omega
   ·have:=hm.jy _ _ ag;show i<m.n+1;omega
  ·rw[<-Xg,Pn (by simpa using fP)];simpa using Xe
 ·
  refine k _ _ _ bH.DH ?_ (Xd.new (m:=⟨t1,m.n⟩) (a:=⟨b,0,cap⟩) b2 aF (Xf _ _ _ _ _ (bH.zr _ hm.fresh) (by simp) GN Bu));simp only[aU];exact⟨_,bH.rD _ _ _,by simpa using sF,by simp⟩
def ag4(aP:cY X.P X.E)(ah:∀ d,o.dst=some d->d<X.n){u:Nat}(ar:o.op=.call { callee:=.builtin .append,args:=#[os,qB],argTypes:=#[t,u] })
 (au:X.E t=some ⟨cg,b',tC,.slice e⟩) {s x:al} (rA:wk (X.E u) aJ x=true) (he:X.E e=some aJ) {kn:Nat} (af:sA x=some kn) (aq:kn≠0)
  (es:bw F os=.val us) (gs:aU D s us) (ex:bw F qB=.val lY) (zy:aU D x lY) (h:Dr G m.t x aJ.size (Pu X G m s x aJ kn e)=some (v,m'))
  (hm:df (dR X G pr) D m I M) (k:rF X G pr D m I M v m' o.dst F C K):bp X o F C I M K:=by
 obtain⟨l,vs,aa,aw,bY,fx,sr,_⟩:=agV (ut:=X.E u) h rA zy hm af aq;have ae:b7 (Nat.beq kn 0) (b7 (Dt s) (some (s,m)) none) (b7 (l.all al.one) (zg G m s l kn aJ.size aJ.bytes e) none)=some (v,m'):=aa;rw[gS aq]at ae;have aR:b7 (l.all al.one) (zg G m s l kn aJ.size aJ.bytes e) none=some (v,m'):=ae;obtain⟨h3,aR⟩:=gF aR;have U:=aw.one h3;obtain⟨l0,hu,fu⟩:=Xb rA;have GM:∀ {q:List Value} {c:Nat},q.length=c*aJ.size->∀ i,(dR X G pr).E e=some i->q.length=c*i.size:=λaz i hi=>by have:X.E e=some i:=hi;rw[he]at this;cases this;exact az
 cases s<;>simp only[zg]at aR<;>first | cases aR | skip
 case sn=>
  obtain⟨ag,bn⟩:=gF aR;rw[cA]at ag;obtain⟨m2,b2,an,eh⟩:=Pl (Y:=dR X G pr) bn;cases b2;have Pv:=gs.Bn;subst Pv;have mD:0+kn<=maxLen:=by rw[dK];exact bN ag.2
  have kq:(0+kn)*aJ.bytes<=140737488355328:=by rw[dK];exact bN ag.1
  refine Ps aP ah ar au hu fu he (n:=0) (c:=0) (xs:=[]) es ex (by simp) sr U bY fx (λw _=>by simp[run_firstCells_none]) mD kq (λao=>by omega) λ_ b cap aS bx aF sF Bu GN=>?_;refine k _ _ _ bH.DH ?_ (eh aS hm aF aw (GM GN) Bu);simp only[aU];exact⟨_,bH.rD _ _ _,by simpa using sF,by simp⟩
 case sl=>
  obtain⟨ag,bn⟩:=gF aR;rw[cA]at ag;exact ag2 aP ah ar au hu fu he es gs ex bn (bN ag.2) (bN ag.1) aw sr U bY fx hm k
 case sx=>
  split at aR;·rename_i aB;obtain⟨ag,bn⟩:=gF aR;simp only[cA]at ag;obtain⟨⟨cT,c3⟩,hc,vW,rl⟩:=ag;have d1:=cM cT;have d2:=cM c3;have d3:=cM hc;subst d1;subst d2;subst d3;exact ag3 aP ah ar au hu fu he es gs ex aB bn (bN rl) (bN vW) aw sr U bY fx hm k
  ·cases aR
def ag5(aP:cY X.P X.E)(ah:∀ d,o.dst=some d->d<X.n)(ar:o.op=.call { callee:=.builtin .append,args:=args,argTypes:=ts })(h:OS (dR X G pr) m ts.toList (nW aj args.toList)=some (v,m'))
  (H:iV D F aj args.toList) (hm:df (dR X G pr) D m I M) (k:rF X G pr D m I M v m' o.dst F C K):bp X o F C I M K:=by
 unfold OS at h;split at h
 ·rename_i t u s x au aw;split at h
  ·rename_i sa sD sz e oa;obtain⟨aJ,he,h⟩:=cL h;obtain⟨rA,h⟩:=gF h;obtain⟨os,qB,l9,gT,wu⟩:=Kc aw;obtain⟨us,es,gs⟩:=H.bw (x:=os) (by rw[l9];simp) gT;obtain⟨lY,ex,zy⟩:=H.bw (x:=qB) (by rw[l9];simp) wu;have Br:args=#[os,qB]:=by apply gG;simpa using l9
   have Bs:ts=#[t,u]:=by apply gG;simpa using au
   have kW:o.op=.call { callee:=.builtin .append,args:=#[os,qB],argTypes:=#[t,u] }:=by rw[ar,Br,Bs]
   cases af:sA x with
   |none=>
    exfalso;unfold wk at rA;split at rA<;>first | (cases rA;done) | (simp[sA,wj]at af;done)
   |some kn=>
    rw[af]at h;by_cases aq:kn=0;·subst aq;exact ag1 aP ah kW oa rA he af es gs ex zy h hm k
    ·exact ag4 aP ah kW oa rA he af aq es gs ex zy h hm k
  ·cases h
 ·cases h
end
section
variable{P:Program}{w:World}
def Xh(t u ty e:Nat)(i:TypeInfo)(z:Value)(au:P.underlying t=some (.slice e))(hu:P.underlying u=some mC)(o6:∀ k,mC≠.int k)(hi:P.info? e=some i)(a1:i.zero=some z)(p6:z.cells.size=i.size)
 {n:Nat} (hb:xs.length=n*i.size) (xu:∀ w':World,w'.heap=w.heap->∀ j v,xs[j]?=some v->w'.cell? (ad.add j)=some v)
  {x:Value} (hm:0<m) (aw:bV.length=m*i.size)
  (bY:∀ w',(Builtin.lenOf x).run P w'=.ok m w') (fx:∀ w':World,w'.heap=w.heap->(Builtin.firstCells i.size m x).run P w'=.ok bV.toArray w')
  (b':n+m<=maxLen) (ch:(n+m)*i.bytes<=140737488355328) :
  ∃ (c:Nat) (aS:List Value),(Builtin.append_ #[t,u] ty #[.slice (some ad) n n,x]).run P w=.ok (.slice (some ⟨w.heap.size,0,none⟩) (n+m) c) (w.drew.alloc (.cells aS.toArray e (0,0)))/\aS.length=c*i.size/\n+m<=c/\c<=maxLen/\aS.take ((n+m)*i.size)=xs++bV:=by
 have Cy:(xs++bV).length=(n+m)*i.size:=by rw[b5,hb,aw,iJ]
 have Ix:∀ c2,(xs++bV++(Builtin.zeroCells z.cells (grownCap w (n+m) c2 e-(n+m))).toList).length=grownCap w (n+m) c2 e*i.size/\n+m<=grownCap w (n+m) c2 e/\grownCap w (n+m) c2 e<=maxLen /\
   (xs++bV++(Builtin.zeroCells z.cells (grownCap w (n+m) c2 e-(n+m))).toList).take ((n+m)*i.size)=xs++bV:=by
  intro c2;have cI:=grownCap_ge w (n+m) c2 e;have kv:grownCap w (n+m) c2 e<=maxLen:=grownCap_le_maxLen w (n+m) c2 e b';refine⟨?_,cI,kv,?_⟩;·rw[b5,Cy,ym,size_zeroCells,p6,<-iJ];congr 1;omega
  ·rw[<-Cy];exact EY
 have mD:n+m<=9223372036854775807:=by simp only[maxLen]at b';exact b'
 have an:m≠0:=by omega
 have q7:¬ (n+m<=n):=by omega
 have Ar:¬ (9223372036854775807<((n:Int)+(m:Int))):=by omega
 have As:¬ (281474976710656<Builtin.nextslicecap (n+m) n*i.bytes):=by have:=growslice_fits (by omega:n<n+m) ch;omega
 have aF:=fx w.drew rfl;have og:=run_firstCells_some (P:=P) w.drew i.size n ad n n xs hb (xu w.drew rfl);obtain⟨aV,aX,bq,eK⟩:=Ix n;refine⟨grownCap w (n+m) n e,_,?_,aV,aX,bq,eK⟩;simp[Builtin.append_,run_underlying au,run_underlying hu,sizeOf,typeInfo,zeroValue,hi,a1,bY,an,q7,Ar,As,Question.forced,aF,og,newRow,grownCap];congr 2;apply gG;simp
end
section
variable{X:cW}{β:Nat->Nat}{a:Act}{w:World}{F:Fr}{C:dM}{I:aH}{M:List aE}{o:Oper}{K:gg}
def ag6(aP:cY X.P X.E){s:Operand}{u:Nat}(ar:o.op=.call { callee:=.builtin .append,args:=#[s,x],argTypes:=#[t,u] })(ah:∀ d,o.dst=some d->d<X.n)
 {dn:dU} (au:X.E t=some dn) (cO:dn.bK=.slice e) (hu:X.E u=some l0) (fu:∀ k,l0.bK≠.int k) (he:X.E e=some aJ)
 {n:Nat} (ap:bw F s=.val (.slice (some ad) n n)) (bl:bD I M ad (n*aJ.size) xs)
  {o7:Value} (ab:bw F x=.val o7) (hm:0<m) (aw:bV.length=m*aJ.size)
  (bY:∀ w',(Builtin.lenOf o7).run X.P w'=.ok m w') (fx:∀ w,ef I M w->(Builtin.firstCells aJ.size m o7).run X.P w=.ok bV.toArray w)
  (b':n+m<=maxLen) (ch:(n+m)*aJ.bytes<=140737488355328)
  (k:∀ os:a',os.n=n+m->(∀ g,os.a=some g->I g=none)->os.ok aJ.size (xs++bV) ->
   K (put o.dst (.val os.val) F) C I (os.aQ e++M)):bp X o F C I M K:=by
 refine⟨λa w Q ⟨β,a8⟩=>?_⟩;obtain⟨inf,z,hi,eA,gw,gW,iG⟩:=(aP _ _ he).inf;obtain⟨d,fy,eX⟩:=(aP _ _ hu).fk;obtain⟨kw,nH,js⟩:=(aP _ _ au).fk;have p7:kw=.slice e:=by rw[cO]at js;cases kw<;>simp_all[fj]
 subst p7;have p6:z.cells.size=inf.size:=by rw[eA,<-(aP _ _ he).len,<-iG];simp
 have hb:xs.length=n*aJ.size:=by obtain⟨_,_,_,_,_,_,h⟩:=bl;exact h
 rw[<-eA]at hb aw fx;obtain⟨c,aS,fw,aV,aX,bq,eK⟩:=Xh (P:=X.P) (w:=w) t u o.type e inf z nH fy (λk a4=>fu k (by rw[<-eX,a4];rfl)) hi gW p6 hb (λw' ud j v ak=>bl.GL (a8.holds.heap ud) j v ak) (x:=o7) hm aw bY (λw' ud=>fx w' (a8.holds.heap ud)) b' (by rw[gw];exact ch);rw[eA]at aV eK;have At:I w.heap.size=none:=by
  cases bx:I w.heap.size with
  |none=>rfl| some mZ=>have:=a8.holds.i _ _ bx;simp at this
 have es:=dq a8.aj ap;have ex:=dq a8.aj ab;have fD:=k ⟨some w.heap.size,n+m,c,aS⟩ rfl (λg aB=>by cases aB;exact At) ⟨by rw[b5];rw[eA]at hb aw;rw[hb,aw,<-iJ],λh=>(by cases h),λg aB=>⟨aV,aX,bq,eK⟩⟩;refine i' (by rw[ar];simp) (v:=.slice (some ⟨w.heap.size,0,none⟩) (n+m) c) (w':=w.drew.alloc (.cells aS.toArray e (0,0))) ?_ ⟨_,_,_,_,⟨β,cH.put (x:=.val (.slice (some ⟨w.heap.size,0,none⟩) (n+m) c)) ?_ ah rfl⟩,fD⟩
 ·unfold execOp;simp only[ar,resolve,invoke,builtin,ca,c5,bR,s4,ek,p0,es,ex,fw]
 ·have aa:cH X β a w.drew F C I M:=a8.world rfl;exact aa.nu (.cells aS.toArray e (0,0))
def Xi(an:bD I M ad (m*size) bV){w:World}(hw:ef I M w):(Builtin.firstCells size m (.slice (some ad) m c')).run P w=.ok bV.toArray w:=by
 obtain⟨bZ,cs,T,aj,eg,ai,aw⟩:=an;refine run_firstCells_some (P:=P) w size m ad m c' bV aw λj v ak=>?_;rw[ei _ bZ,tU (eg.heap hw)];rw[<-ai,lW]at ak;split at ak
 ·rw[qO]at ak;simpa using ak
 ·cases ak
def Pw{n:Nat}(h:bD I M ad n xs):xs.length=n:=by obtain⟨_,_,_,_,_,_,h⟩:=h;exact h
def bp.Px(aP:cY X.P X.E){s:Operand}(ar:o.op=.call { callee:=.builtin .append,args:=#[s,x],argTypes:=#[t,t] })(ah:∀ d,o.dst=some d->d<X.n)
 {dn:dU} (au:X.E t=some dn) (cO:dn.bK=.slice e) (he:X.E e=some aJ)
 {n:Nat} (ap:bw F s=.val (.slice (some sa) n n)) (bl:bD I M sa (n*aJ.size) xs)
 (ab:bw F x=.val (.slice (some ad) m c')) (hm:0<m) (an:bD I M ad (m*aJ.size) bV) (b':n+m<=maxLen) (ch:(n+m)*aJ.bytes<=140737488355328)
  (k:∀ os:a',os.n=n+m->(∀ g,os.a=some g->I g=none)->os.ok aJ.size (xs++bV)->K (put o.dst (.val os.val) F) C I (os.aQ e++M)):bp X o F C I M K:=
 ag6 aP ar ah au cO au (λk=>by rw[cO];simp) he ap bl ab hm (Pw an) (λ_=>rfl) (λw hw=>Xi an hw) b' ch k
def n'.Px{K:dD->aH->List aE->Prop}(aP:cY X.P X.E){s:Operand}(ar:o.op=.call { callee:=.builtin .append,args:=#[s,x],argTypes:=#[t,t] })
 {dn:dU} (au:X.E t=some dn) (cO:dn.bK=.slice e) (he:X.E e=some aJ)
 {n:Nat} (ap:bw F s=.val (.slice (some sa) n n)) (bl:bD I M sa (n*aJ.size) xs)
 (ab:bw F x=.val (.slice (some ad) m c')) (hm:0<m) (an:bD I M ad (m*aJ.size) bV) (b':n+m<=maxLen) (ch:(n+m)*aJ.bytes<=140737488355328)
  (M':a'->List aE) (A7:∀ bA:a',(bA.aQ e++M).Perm (M' bA))
  (k:∀ bA:a',bA.n=n+m->(∀ g,bA.a=some g->I g=none)->bA.ok aJ.size (xs++bV)->K (.val bA.val) I (M' bA)):n' X o F C I M K:=by
 refine⟨fun β a w Q a8=>?_⟩;have hb:=Pw bl;have sw:=Pw an;have fx:∀ w,ef I M w->(Builtin.firstCells aJ.size m (.slice (some ad) m c')).run X.P w=.ok bV.toArray w:=λw hw=>Xi an hw;obtain⟨inf,z,hi,eA,gw,gW,iG⟩:=(aP _ _ he).inf;obtain⟨kw,nH,js⟩:=(aP _ _ au).fk;have p7:kw=.slice e:=by rw[cO]at js;cases kw<;>simp_all[fj]
 subst p7;have p6:z.cells.size=inf.size:=by rw[eA,<-(aP _ _ he).len,<-iG];simp
 rw[<-eA]at hb sw fx;obtain⟨c,aS,fw,aV,aX,bq,eK⟩:=Xh (P:=X.P) (w:=w) t t o.type e inf z nH nH (λk a4=>by cases a4) hi gW p6 hb (λw' ud j v ak=>bl.GL (a8.holds.heap ud) j v ak) (x:=.slice (some ad) m c') hm sw (λ_=>rfl) (λw' ud=>fx w' (a8.holds.heap ud)) b' (by rw[gw];exact ch);rw[eA]at aV eK hb sw;have At:I w.heap.size=none:=by
  cases bx:I w.heap.size with
  |none=>rfl| some mZ=>have:=a8.holds.i _ _ bx;simp at this
 have es:=dq a8.aj ap;have ex:=dq a8.aj ab;have Of:(⟨some w.heap.size,n+m,c,aS⟩:a').ok aJ.size (xs++bV):=by
  refine⟨?_,(λh=>by cases h),λdz aB=>?_⟩;·rw[b5,hb,sw,<-iJ]
  ·cases aB;exact⟨aV,aX,bq,eK⟩
 refine i' (by rw[ar];simp) (v:=.slice (some ⟨w.heap.size,0,none⟩) (n+m) c) (w':=w.drew.alloc (.cells aS.toArray e (0,0))) ?_ ⟨_,.val (.slice (some ⟨w.heap.size,0,none⟩) (n+m) c),I,M' ⟨some w.heap.size,n+m,c,aS⟩,rfl,rfl,?_,k ⟨some w.heap.size,n+m,c,aS⟩ rfl (λdz aB=>by cases aB;exact At) Of,rfl⟩
 ·unfold execOp;simp only[ar,resolve,invoke,builtin,ca,c5,bR,s4,ek,p0,es,ex,fw]
 ·refine cH.ir ?_ (.perm (A7 _) .refl);have aa:cH X β a w.drew F C I M:=a8.world rfl;exact aa.nu (.cells aS.toArray e (0,0))
end
open Go Go.Proofs
inductive nY
 |own(os:a')| aj (sa:Addr) (n:Nat)
def nY.a:nY->Option Addr
 | .own os=>os.a.map λg=>⟨g,0,none⟩
 | .aj sa _=>some sa
def nY.n:nY->Nat
 | .own os=>os.n| .aj _ n=>n
def nY.c:nY->Nat
 | .own os=>os.c| .aj _ n=>n
def nY.val(x:nY):Value:=.slice x.a x.n x.c
def nY.aQ(e:Nat):nY->List aE
 | .own os=>os.aQ e| .aj _ _=>[]
def nY.ok(I:aH)(size:Nat)(xs:List Value):nY->Prop
 | .own os=>os.ok size xs| .aj sa n=>∀ M,bD I M sa (n*size) xs
def n'.zg{X:cW}{F:Fr}{C:dM}{o:Oper}{K:dD->aH->List aE->Prop}(aP:cY X.P X.E){s:Operand}(ar:o.op=.call { callee:=.builtin .append,args:=#[s,x],argTypes:=#[t,t] })
 {dn:dU} (au:X.E t=some dn) (cO:dn.bK=.slice e) (he:X.E e=some aJ)
  (os:nY) (a5:os.ok I aJ.size xs) (ap:bw F s=.val os.val)
  {b9:Nat} (ab:bw F x=.val (.slice (some ⟨b9,0,none⟩) 1 c')) (aw:cs.length=aJ.size) (U:gI cs=true)
  (a9 post:List aE) (bb:M=⟨b9,.cells cs.toArray e (0,0)⟩::(a9++(os.aQ e++post))) (b':os.n+1<=9223372036854775807) (ch:(os.n+1)*aJ.bytes<=140737488355328)
  (k:∀ bA:a',bA.n=os.n+1->(∀ g,bA.a=some g->I g=none)->bA.ok aJ.size (xs++cs)->K (.val bA.val) I (⟨b9,.cells cs.toArray e (0,0)⟩::(a9++(bA.aQ e++post)))):n' X o F C I M K:=by
 cases os with
 |own os=>exact .tr aP ar au cO he os a5 ap ab aw U a9 post bb b' ch k
 |aj sa n=>
  have GP:M=⟨b9,.cells cs.toArray e (0,0)⟩::(a9++post):=bb;refine .Px aP ar au cO he ap (a5 M) ab (m:=1) (bV:=cs) (by decide) ?_ (by unfold maxLen;exact b') ch _ (λbA=>?_) k;·rw[o0];refine⟨rfl,_,_,_,.inr ⟨⟨b9,.cells cs.toArray e (0,0)⟩,by rw[GP];exact .head _,rfl,rfl⟩,?_,aw⟩;simp only[oZ];exact g4 (by omega)
  ·rw[GP];exact rj.trans (.cons _ (vU _ _ _))
structure GQ(I:aH)(ds:List bm)(xs:List a3)(t:bB)(i:Nat)(os:nY)(kb:List (Nat×List Nat)):Prop where
 ii:i<=t.n
 n:os.n=xs.length+i
 ok:os.ok I 9 ((xs++iB kb (t.ns.take i)).flatMap a3.cells)
 kb:kb.map (·.2)=(t.ns.take i).map (eR ds xs.length)
 find:∀ n∈t.ns.take i,n.k=3->0<=cy n.t ds 0
 own:0<i->∃ o:a',os=.own o
def GQ.len{xs:List a3}{t:bB}{os:nY}{kb:List (Nat×List Nat)}(h:GQ I ds xs t i os kb)(an:t.ns.length=t.n):kb.length=(t.ns.take i).length:=by have:=congrArg List.length h.kb;simpa using this
def Xj{t:bB}(au:t.ok I){eZ c1:Option Addr}{fV ez:Nat}{xs:List a3}(h:Gi I ds eZ c1 fV ez xs.length t){os0:nY}(we:os0.ok I 9 (xs.flatMap a3.cells))(Om:os0.n=xs.length)(bt:Nat)(s:ByteArray)(rwv:Value) :
  Spec Tryz.prog 53 [ptr bt,t.val] I (jj bt s (.slice eZ ds.length fV) (.slice c1 ds.length ez) os0.val rwv::(os0.aQ 59++[])) λv I' M'=>I'=I/\∃ (i:Nat) (os:nY) (kb:List (Nat×List Nat)),GQ I ds xs t i os kb /\
   M'=jj bt s (.slice eZ ds.length fV) (.slice c1 ds.length ez) os.val rwv::(os.aQ 59++kb.map fb)/\((v=.bool true/\i=t.n)\/(v=.bool false/\∃ n∈t.ns,n.k=3/\cy n.t ds 0<0)):=by
 refine bU [] aT Tryz.func53 rfl rfl rfl ?_;intro B aq;have kE:=au.n;have afU:=h.many;refine aD.mk _ (tx (j:=3) (.head _) (by decide)) ?_;refine cx.inv (ι:=Nat×nY×List (Nat×List Nat)) (λx=>{ cc:=[(0,.val (ptr bt)),(4,.lit false),(5,.val (.int .i64 os0.n)),(18,.val (.slice t.a t.n t.c)),(19,.val (.int .i64 t.n)),(20,.val (.int .i64 x.1))],cl:=[],ck:=I,de:=jj bt s (.slice eZ ds.length fV) (.slice c1 ds.length ez) x.2.1.val rwv::(x.2.1.aQ 59++x.2.2.map fb) }) (λx=>GQ I ds xs t x.1 x.2.1 x.2.2) (λx=>t.n-x.1) ?_ ?_
 ·exact⟨(0,os0,[]),⟨bi _,Om,by simpa[iB]using we,rfl,λn an=>(by cases an),λh=>absurd h (Nat.lt_irrefl _)⟩,.refl,jo,.nil⟩
 rintro⟨i,os,kb⟩gk;have hi:=gk.ii;have pF:=gk.n;have A9:=gk.ok;have A':=gk.len kE;simp only at hi pF A9 A';refine aI.mk (λe=>?_) (λe=>?_)
 rotate_left
 ·have cI:t.n<=i:=by simpa using e
  obtain rfl:i=t.n:=by omega
  exact⟨_,_,.refl,rfl,t.n,os,kb,gk,rfl,.inl ⟨rfl,rfl⟩⟩
 have aO:i<t.n:=by simpa using e
 have bG:i<t.ns.length:=by omega
 obtain⟨ad,bI,bl⟩:=au.a2.row a3.da aO bG;obtain⟨d,ah⟩:∃ d,t.ns[i]=d:=⟨_,rfl⟩;have eC:d∈t.ns:=by rw[<-ah];exact cZ bG
 have oc:=au.ns d eC;have eg:=oc.kn;obtain⟨dY,fz,iA⟩:=h.ns d eC;rw[ah]at bl;have mE:t.ns.take (i+1)=t.ns.take i++[d]:=by rw[hR bG,ah]
 have xu:∀ (b:Nat) (L:List Nat),((xs++iB kb (t.ns.take i)).flatMap a3.cells)++(oF b L d).cells=(xs++iB (kb++[(b,L)]) (t.ns.take (i+1))).flatMap a3.cells:=λb L=>by rw[mE,VX A',<-eL,jP];simp
 have next:∀ (b:Nat) (L:List Nat) (bA:a'),L=eR ds xs.length d->(d.k=3->0<=cy d.t ds 0)->bA.n=os.n+1->bA.ok 9 ((xs++iB kb (t.ns.take i)).flatMap a3.cells++(oF b L d).cells)->GQ I ds xs t (i+1) (.own bA) (kb++[(b,L)]):=λb L bA bQ aF an a5=>by
  refine⟨aO,(by show bA.n=_;omega),(by rw[<-xu];exact a5),?_,λn an=>?_,λ_=>⟨bA,rfl⟩⟩;·rw[fC,gk.kb,mE,fC,bQ];rfl
  ·rw[mE]at an;rcases dW.1 an with an | an
   ·exact gk.find n an
   ·rw[iu.1 an];exact aF
 refine a7.mk ad i bI rfl aO ?_;refine aD.mk _ (bl _) ?_;refine qR.mk d.kn d.kn rfl rfl (b1 _) (by show 8*d.kn<=_;omega) (by omega) ?_;refine cw.mk λfc On Oo=>?_;refine cx.inv (ι:=Nat) (λj=>{ cc:=[(0,.val (ptr bt)),(4,.lit false),(5,.val (.int .i64 os0.n)),(7,.ref 7 0),(8,.val (.slice (some ⟨fc,0,none⟩) d.kn d.kn)),(18,.val (.slice t.a t.n t.c)),(19,.val (.int .i64 t.n)),(20,.val (.int .i64 i)),(29,.val (.slice d.hK d.kn d.hk)),(30,.val (.int .i64 d.kn)),(31,.val (.int .i64 j))],cl:=[(7,d.cells)],ck:=I,de:=⟨fc,.cells ((d.aM.take j).map (λk=>bE (xs.length+k.toNat))++List.replicate (d.kn-j) (bE 0)).toArray 3 (0,0)⟩::jj bt s (.slice eZ ds.length fV) (.slice c1 ds.length ez) os.val rwv::(os.aQ 59++kb.map fb) }) (λj=>j<=d.kn) (λj=>d.kn-j) ?_ ?_
 ·refine⟨0,bi _,.uJ ?_,Cn,.cons rfl (.nil)⟩;have e:rowOf [bE 0] (d.kn*1)=List.replicate d.kn (bE 0):=by rw[yC,h4]
  show(⟨fc,.cells (rowOf [bE 0] (d.kn*1)).toArray 3 (0,0)⟩:aE)::_=_;rw[e];rfl
 intro j ak;refine aI.mk (λay=>?_) (λay=>?_)
 ·have xE:j<d.kn:=by simpa using ay
  have Ba:j<d.aM.length:=by omega
  obtain⟨dh,ev,dV⟩:=oc.a2.one (f:=λ(k:Int)=>Value.int .i64 k) xE Ba;have afV:=dY _ (cZ Ba);refine a7.mk dh j ev rfl xE ?_;refine aD.mk _ (dV _) ?_;refine aW.mk ((xs.length+d.aM[j].toNat:Nat):Int) (e0 (by omega) (by omega)) ?_;refine a7.mk ⟨fc,0,none⟩ j rfl rfl xE ?_;refine cV.oh [] _ ((d.aM.take j).map (λk=>bE (xs.length+k.toNat))++List.replicate (d.kn-j) (bE 0)) _ rfl ?_ rfl ((d.aM.take (j+1)).map (λk=>bE (xs.length+k.toNat))++List.replicate (d.kn-(j+1)) (bE 0)) ?_ ?_;·rw[oE,b5,dx,mV,CD];show 0+j*1+1<=_;omega
  ·have nV:List.replicate (d.kn-j) (bE 0)=bE 0::List.replicate (d.kn-(j+1)) (bE 0):=by rw[show d.kn-j=(d.kn-(j+1))+1 from by omega,yZ]
   rw[nV,hR Ba,fC,eL];exact I6 (k:=0+j*1) (by rw[dx,mV];omega)
  refine aW.mk _ (b0 (i:=j) (by omega)) ?_;exact⟨j+1,⟨by omega,by omega⟩,.refl,Cn,.cons rfl (.nil)⟩
 have cI:d.kn<=j:=by simpa using ay
 obtain rfl:j=d.kn:=by omega
 have wc:(d.aM.take d.kn).map (λk=>bE (xs.length+k.toNat))++List.replicate (d.kn-d.kn) (bE 0)=(d.aM.map λk=>xs.length+k.toNat).map bE:=by rw[g4 (by omega),wb];simp[Function.comp_def]
 rw[wc];refine aI.mk (λae=>?_) (λae=>?_)
 ·have qv:d.k=3:=cv ae;refine cU.draw aT rfl rfl rfl ?_;refine aD.mk _ (tx (j:=1) (.tail _ (.head _)) (by decide)) ?_;refine aZ.whole _ (VW h.di d.t) ?_;rintro v I' M' -⟨rfl,rfl,rfl⟩;refine aI.mk (λb3=>?_) (λb3=>?_)
  ·have Gk:cy d.t ds 0<0:=cv b3;exact⟨_,_,.sub (.cons _ (.refl _)) .refl,rfl,i,os,kb,gk,rfl,.inr ⟨rfl,d,eC,qv,Gk⟩⟩
  have Gk:¬ cy d.t ds 0<0:=ct b3;have tk:=C0 ds 0 (by omega:0<=cy d.t ds 0);obtain⟨q,az⟩:∃ q:Nat,cy d.t ds 0=(q:Int):=⟨(cy d.t ds 0).toNat,by omega⟩;have fa:q<ds.length:=by omega
  have Bb:q<(ff 0 ds).length:=by rw[v3];exact fa
  obtain⟨ac,Bc,ie⟩:=h.rt.one (f:=bE) fa Bb;have mM:[(ff 0 ds)[q]]=eR ds xs.length d:=by rw[eR,gX qv,bg,az];simp[dI,Bb]
  refine aD.mk _ (tx (j:=2) (.tail _ (.head _)) (by decide)) ?_;refine a7.mk ac q Bc az fa ?_;refine aD.mk _ (ie _) ?_;refine cw.mk λuO afW afX=>?_;refine cU.draw aT rfl rfl rfl ?_;refine aD.mk _ (tx (j:=3) (.tail _ (.tail _ (.head _))) (by decide)) ?_;refine cw.mk λb9 fK hF=>?_;intro G hy;refine n'.zg aT rfl (e:=59) rfl rfl rfl os A9 (rB (hy _ (by simp[Op.operands,Call.operands])) rfl) (rB (hy _ (by simp[Op.operands,Call.operands])) rfl) (cs:=(oF uO [(ff 0 ds)[q]] d).cells) rfl rfl ([fb (uO,[(ff 0 ds)[q]]),⟨fc,.cells ((d.aM.map λk=>xs.length+k.toNat).map bE).toArray 3 (0,0)⟩,jj bt s (.slice eZ ds.length fV) (.slice c1 ds.length ez) os.val rwv]) (kb.map fb) rfl (by omega) (by show(os.n+1)*96<=_;omega) ?_;intro bA U aa aR;refine cV.mk (⟨b9,_⟩::[fb (uO,[(ff 0 ds)[q]]),⟨fc,.cells ((d.aM.map λk=>xs.length+k.toNat).map bE).toArray 3 (0,0)⟩]) (bA.aQ 59++kb.map fb) _ _ rfl rfl (bN rfl) rfl ?_;refine aW.mk _ (b0 (i:=i) (by omega)) ?_;refine⟨(i+1,.own bA,kb++[(uO,[(ff 0 ds)[q]])]),⟨next _ _ _ mM (λ_=>by omega) U aR,by simp only;omega⟩,.sub (M1:=fb (uO,[(ff 0 ds)[q]])::jj bt s (.slice eZ ds.length fV) (.slice c1 ds.length ez) bA.val rwv::(bA.aQ 59++kb.map fb)) (.cons _ (.cons_cons _ (.cons _ (.refl _)))) (.perm (JH _ _ _ _) .refl),jo,.nil⟩
 ·have qv:¬ d.k=3:=ct ae;have mM:(d.aM.map λk=>xs.length+k.toNat)=eR ds xs.length d:=by rw[eR,c0 qv,bd]
  have Oq:(d.aM.map λk=>xs.length+k.toNat).length=d.kn:=by rw[dx,eg]
  rw[<-Oq];refine cU.draw aT rfl rfl rfl ?_;refine aD.mk _ (tx (j:=3) (.tail _ (.head _)) (by decide)) ?_;refine cw.mk λb9 fK hF=>?_;intro G hy;refine n'.zg aT rfl (e:=59) rfl rfl rfl os A9 (rB (hy _ (by simp[Op.operands,Call.operands])) rfl) (rB (hy _ (by simp[Op.operands,Call.operands])) rfl) (cs:=(oF fc (d.aM.map λk=>xs.length+k.toNat) d).cells) rfl rfl ([fb (fc,d.aM.map λk=>xs.length+k.toNat),jj bt s (.slice eZ ds.length fV) (.slice c1 ds.length ez) os.val rwv]) (kb.map fb) rfl (by omega) (by show(os.n+1)*96<=_;omega) ?_;intro bA U aa aR;refine cV.mk (⟨b9,_⟩::[fb (fc,d.aM.map λk=>xs.length+k.toNat)]) (bA.aQ 59++kb.map fb) _ _ rfl rfl (bN rfl) rfl ?_;refine aW.mk _ (b0 (i:=i) (by omega)) ?_;refine⟨(i+1,.own bA,kb++[(fc,d.aM.map λk=>xs.length+k.toNat)]),⟨next _ _ _ mM (λh=>absurd h qv) U aR,by simp only;omega⟩,.sub (M1:=fb (fc,d.aM.map λk=>xs.length+k.toNat)::jj bt s (.slice eZ ds.length fV) (.slice c1 ds.length ez) bA.val rwv::(bA.aQ 59++kb.map fb)) (.cons _ (.refl _)) (.perm (JH _ _ _ _) .refl),jo,.nil⟩
def bm.Py(d:bm):Value:=.agg #[.string d.name,.slice d.t.a d.t.n d.t.c,.int .i64 d.t.bJ]
def GR:bm:=⟨⟨#[]⟩,⟨[],none,0,0,0⟩⟩
def rG(l:List bm)(m:Nat):List (List Value):=(List.range m).reverse.map λi:Nat=>[.int .i64 (i:Int),(l.getD i GR).Py]
def ag7(l:List bm)(m:Nat):rG l (m+1)=[.int .i64 m,(l.getD m GR).Py]::rG l m:=by unfold rG;rw[zc,Pe,List.reverse_singleton,List.singleton_append,ek]
def Pz(l:List bm)(m:Nat):(rG l m).length=m:=by simp[rG]
def ag8(l:List bm){k:Nat}(af:k<m):(rG l m)[k]'(by rw[Pz];exact af)=[.int .i64 ((m-1-k:Nat):Int),(l.getD (m-1-k) GR).Py]:=by simp only[rG,lH,List.getElem_reverse,qs,nj]
def ag9(a:Option Addr)(n c:Nat):Spec Tryz.prog 105 [.slice a n c] I [] λr I' M'=>∃ b,r=.func (.func 161) #[] #[ptr b]/\I' b=some (.cells #[.slice a n c] 22 (0,0))/\(∀ b o,I b=some o->I' b=some o)/\M'=[]:=by refine bU [1] aT Tryz.func105 rfl rfl rfl ?_;intro B aq;refine cw.mk λg aB CH=>?_;exact⟨_,_,.oT rfl (by simp) .refl,g,rfl,sf ..,ph aB,rfl⟩
def aha{g:cE}(aB:g.ok I){b:Nat}(ag:I b=some (.cells #[.slice g.a g.n g.c] 22 (0,0))) :
  Iter Tryz.prog 161 [ptr b] I (rG g.ds g.n):=by
 intro y R uc yP dN M0 qd lF;refine ES [] aT Tryz.func161 rfl rfl rfl ?_;intro B aq;have k2:=aB.a2.cap;have Xk:=aB.n;have bl:∀ (dm:aH) (M:List aE),(∀ b o,I b=some o->dm b=some o)->bD dm M ((⟨b,0,none⟩:Addr).add 0) 1 [.slice g.a g.n g.c]:=λdm M dF=>⟨rfl,_,_,_,.inl (dF _ _ ag),rfl,rfl⟩;refine aD.mk _ (bl _ _ qd) ?_;refine aW.mk ((g.n:Int)-1) (by rw[wrap_i64 (by unfold mF;omega)]) ?_;refine cx.inv (ι:=Nat×Nat×aH×List aE) (λx=>{ cc:=[(0,.val (.func (.yield y) #[] #[])),(1,.val (ptr b)),(3,.val (.int .i64 ((x.1:Int)-1)))],ck:=x.2.2.1,de:=x.2.2.2 }) (λx=>x.1<=g.n/\(∀ b o,I b=some o->x.2.2.1 b=some o)/\R x.2.1 x.2.2.1 x.2.2.2/\x.2.1<=(rG g.ds g.n).length/\(rG g.ds g.n).drop x.2.1=rG g.ds x.1) (λx=>x.1) ?_ ?_
 ·exact⟨(g.n,0,dN,M0),⟨by simp,qd,lF,by simp,rfl⟩,.refl,dO,.nil⟩
 ·rintro⟨m,k,dm,M1⟩⟨hm,dF,m1,fz,jb⟩;simp only at hm dF m1 fz jb;refine aI.mk (λh=>?_) (λh=>?_)
  ·have aO:(0:Int)<=(m:Int)-1:=cv h;obtain⟨m,rfl⟩:∃ q,m=q+1:=⟨m-1,by omega⟩;have aC:((m+1:Nat):Int)-1=(m:Int):=by omega
   obtain⟨ad,bI,M8⟩:=(aB.a2.mono dF).row bm.da (j:=m) (by omega) (by omega);rw[ag7]at jb;obtain⟨af,ai,ox⟩:=drop_cons jb;refine aD.mk _ (bl _ _ dF) ?_;refine a7.mk ad m bI aC (by omega) ?_;refine aD.mk _ (M8 _) ?_;refine bp.yield rfl (by simp) rfl rfl ?_;have aG:=yP k af dm M1 dF m1;rw[ai]at aG;have ay:g.ds.getD m GR=g.ds[m]:=by simp[dI,show m<g.ds.length by omega]
   rw[ay,<-aC]at aG;refine Iv.mk M1 [] _ (by simp) aG ?_;rintro v eU eJ l5 (⟨rfl,q8⟩ | ⟨rfl,ab⟩);·refine aI.mk (λh=>by simp at h) (λ_=>?_);refine aW.mk ((m:Int)-1) (by rw[wrap_i64 (by unfold mF;omega)];omega) ?_;exact⟨(m,k+1,eU,eJ),⟨⟨by simp only;omega,λb o h=>l5 b o (dF b o h),q8,af,ox⟩,by simp only;omega⟩,.perm (by simp) .refl,dO,.nil⟩
   ·refine aI.mk (λ_=>?_) (λh=>by simp at h);exact⟨_,_,.perm (by simp) .refl,.inr ab⟩
  ·have cI:¬ (0:Int)<=(m:Int)-1:=ct h;obtain rfl:m=0:=by omega
   refine⟨_,_,.refl,.inl ?_⟩;have uj:k=(rG g.ds g.n).length:=by have:(rG g.ds g.n).drop k=[]:=jb.trans (by simp[rG]);have:=MA.1 this;omega
   rw[<-uj];exact m1
structure ahb(ds:List bm)(gN nn h8 dA m:Nat)(L:List Nat)(cN:List Value)(M:List aE):Prop where
 M:M=[⟨h8,.cells [.slice (some ⟨gN,0,none⟩) L.length nn].toArray 57 (0,0)⟩,⟨dA,.cells [.int .i64 ((bz (ds.take m):Nat):Int)].toArray 3 (0,0)⟩,du gN cN]
 len:cN.length=nn
 av:cN.take L.length=L.map bE
 jY:L.length+bz (ds.take m)=nn
 mem:∀ x,x∈L ↔ bz (ds.take m)<=x/\x<nn
 cn:L.Nodup
def ahc{g:cE}(aB:g.ok I){bt:Nat}{s:ByteArray}{nv rv rwv:Value}{na:Option Addr}{nn nc:Nat}(cf:I bt=some (.cells ([.string s,nv,rv,.slice na nn nc,rwv]:List Value).toArray 98 (0,0)))(rH:nn=bz g.ds)(ag:nn<=1048576) :
  Spec Tryz.prog 56 [ptr bt,g.val] I [] λv I' M'=>(∀ b o,I b=some o->I' b=some o)/\∃ (gN:Nat) (L:List Nat) (cN:List Value),v=.slice (some ⟨gN,0,none⟩) L.length nn/\cN.length=nn/\cN.take L.length=L.map bE/\L.length=nn/\(∀ x,x∈L ↔ x<nn)/\L.Nodup/\M'=[du gN cN]:=by
 refine bU [5,6] aT Tryz.func56 rfl rfl rfl ?_;intro B aq;have fU:=aB.n;have Xl:∀ {I':aH} {M:List aE},(∀ b o,I b=some o->I' b=some o)->bD I' M ((⟨bt,0,none⟩:Addr).add 3) 1 [.slice na nn nc]:=λh=>by rw[ei _ rfl];exact⟨rfl,_,_,_,.inl (h _ _ cf),rfl,rfl⟩
 refine aD.mk _ (Xl λ_ _ h=>h) ?_;refine qR.mk 0 nn rfl rfl (bi _) (by show 8*nn<=_;omega) (by omega) ?_;refine cw.mk λgN aod aoe=>?_;refine cw.mk λh8 Nb aof=>?_;refine cV.mk [] [⟨gN,_⟩] _ _ rfl rfl (bN rfl) rfl ?_;refine aD.mk _ (Xl λ_ _ h=>h) ?_;refine cw.mk λdA TV ahd=>?_;refine cV.mk [] [⟨h8,_⟩,⟨gN,_⟩] _ _ rfl rfl (bN rfl) rfl ?_;refine aZ.mk [] _ _ (.refl _) (ag9 g.a g.n g.c) ?_;rintro v dm M1 dF⟨cS,rfl,Nd,-,rfl⟩;have nL:=aB.mono dF;have rp:bz (g.ds.take g.n)=nn:=by rw[g4 (by omega),rH]
 refine cU.range (M1:=[⟨h8,.cells [.slice (some ⟨gN,0,none⟩) 0 nn].toArray 57 (0,0)⟩,⟨dA,.cells [.int .i64 (nn:Nat)].toArray 3 (0,0)⟩,du gN (rowOf [bE 0] (nn*1))]) aT rfl rfl rfl (.perm (.swap _ _ _) .refl) (aha nL Nd) (λvs h=>?_) (λk I' M'=>∃ (L:List Nat) (cN:List Value),(∀ b o,dm b=some o->I' b=some o)/\ahb g.ds gN nn h8 dA (g.n-k) L cN M') (λex I' M'=>False) ⟨[],rowOf [bE 0] (nn*1),λ_ _ h=>h,⟨?_,by simp[rowOf],rfl,by rw[zp,rp];simp,λx=>?_,zU⟩⟩ ?_ ?_ (λex I' M' _ h=>h.elim)
 ·obtain⟨p,_,rfl⟩:=dp.1 h;rfl
 ·rw[zp,rp];rfl
 ·rw[zp,rp];simp
 ·rintro k af I' M' -⟨L,cN,bk,a8⟩l B aq mX;obtain⟨rfl,hX,lL,rk,tj,FR⟩:=a8;rw[Pz]at af;have ai:=ag8 g.ds af;rw[ai];obtain⟨m,hm⟩:∃ m,g.n-k=m+1:=⟨g.n-k-1,by omega⟩;have pc:g.n-1-k=m:=by omega
  have kg:g.n-(k+1)=m:=by omega
  have xf:m<g.ds.length:=by omega
  have CA:g.ds.getD m GR=g.ds[m]:=by simp[dI,xf]
  have mE:=Og xf;have kE:=(aB.ds _ (cZ xf)).t.n;have pV:=Oh g.ds (m+1);rw[pc,CA];rw[hm]at rk tj;simp only[hm];generalize g.ds[m]=d at mE kE;have yS:∀ {M:List aE} {e:Nat},(⟨dA,.cells [.int .i64 (e:Int)].toArray 3 (0,0)⟩:aE)∈M->bD I' M ⟨dA,0,none⟩ 1 [.int .i64 (e:Int)]:=λbb=>⟨rfl,_,_,_,.inr ⟨_,bb,rfl,rfl⟩,rfl,rfl⟩;have ahe:∀ {M:List aE} {v:Value},(⟨h8,.cells [v].toArray 57 (0,0)⟩:aE)∈M->bD I' M ⟨h8,0,none⟩ 1 [v]:=λbb=>⟨rfl,_,_,_,.inr ⟨_,bb,rfl,rfl⟩,rfl,rfl⟩;refine aD.mk _ (yS (e:=bz (g.ds.take (m+1))) (.tail _ (.head _))) ?_;refine aW.mk ((bz (g.ds.take m):Nat):Int) (e0 (by omega) (by omega)) ?_;refine cx.inv (ι:=Nat×List Value) (λx=>{ cc:=[(5,.val (ptr h8)),(6,.val (ptr dA)),(9,.val (.int .i64 (bz (g.ds.take m):Nat))),(10,.val (.int .i64 ((bz (g.ds.take m)+x.1:Nat):Int)))],cl:=[],ck:=I',de:=[⟨h8,.cells [.slice (some ⟨gN,0,none⟩) (L++List.range' (bz (g.ds.take m)) x.1).length nn].toArray 57 (0,0)⟩,⟨dA,.cells [.int .i64 ((bz (g.ds.take (m+1)):Nat):Int)].toArray 3 (0,0)⟩,du gN x.2] }) (λx=>x.1<=d.t.n/\x.2.length=nn/\x.2.take (L++List.range' (bz (g.ds.take m)) x.1).length=(L++List.range' (bz (g.ds.take m)) x.1).map bE) (λx=>d.t.n-x.1) ?_ ?_;·exact⟨(0,cN),⟨bi _,hX,by simpa using lL⟩,.uJ (by simp),ec,.nil⟩
  rintro⟨x,c⟩⟨ab,ed,hC⟩;simp only at ab ed hC;have nx:(L++List.range' (bz (g.ds.take m)) x).length=L.length+x:=by rw[b5,List.length_range']
  refine aD.mk _ (yS (e:=bz (g.ds.take (m+1))) (.tail _ (.head _))) ?_;refine aI.mk (λe=>?_) (λe=>?_)
  ·have aO:x<d.t.n:=by have a4:((bz (g.ds.take m)+x:Nat):Int)<((bz (g.ds.take (m+1)):Nat):Int):=cv e;omega
   have gh:List.range' (bz (g.ds.take m)) (x+1)=List.range' (bz (g.ds.take m)) x++[bz (g.ds.take m)+x]:=by rw[List.range'_concat];simp
   have vM:(L++List.range' (bz (g.ds.take m)) (x+1)).length=(L++List.range' (bz (g.ds.take m)) x).length+1:=by rw[gh,<-eL,b5];rfl
   obtain⟨qb,qc,ti⟩:=N7 (L:=L++List.range' (bz (g.ds.take m)) x) hC (by omega) (bz (g.ds.take m)+x);refine aD.mk _ (ahe (.head _)) ?_;refine cw.mk λb9 fK hF=>?_;refine bp.lf aT rfl (by simp) (e:=3) rfl rfl rfl (g:=gN) (n:=(L++List.range' (bz (g.ds.take m)) x).length) (c:=nn) (aS:=c) rfl (show c.length=nn*1 by omega) (ad:=⟨b9,0,none⟩) (m:=1) (c':=1) rfl (bV:=[bE (bz (g.ds.take m)+x)]) ⟨rfl,_,_,_,.inr ⟨_,.head _,rfl,rfl⟩,rfl,rfl⟩ rfl (by omega) [_,_,_] [] rfl ?_;refine cV.mk [_] [_,_] _ _ rfl rfl (bN rfl) rfl ?_;refine aW.mk ((bz (g.ds.take m)+(x+1):Nat):Int) (e0 (by omega) (by omega)) ?_;refine⟨(x+1,bO c ((L++List.range' (bz (g.ds.take m)) x).length*1) [bE (bz (g.ds.take m)+x)]),⟨⟨aO,qb.trans ed,?_⟩,by simp only;omega⟩,.sub (.cons _ (.refl _)) (.uJ ?_),ec,.nil⟩;·simp only;rw[gh,<-eL];exact qc
   ·simp only;rw[vM];rfl
  ·have cI:d.t.n<=x:=by have a4:¬ ((bz (g.ds.take m)+x:Nat):Int)<((bz (g.ds.take (m+1)):Nat):Int):=ct e;omega
   obtain rfl:x=d.t.n:=by omega
   refine cV.mk [_] [_] _ _ rfl rfl (bN rfl) rfl ?_;refine⟨_,_,.refl,L++List.range' (bz (g.ds.take m)) d.t.n,c,bk,⟨?_,ed,hC,?_,λy=>?_,?_⟩⟩;·rw[kg];rfl
   ·rw[kg,nx];omega
   ·rw[kg,dW,tj,List.mem_range'_1];omega
   ·refine x'.2 ⟨FR,List.nodup_range',λa ax b ag j9=>?_⟩;rw[tj]at ax;rw[List.mem_range'_1]at ag;omega
 ·rintro I' M' -⟨L,cN,bk,a8⟩;rw[Pz,wb]at a8;obtain⟨rfl,hX,lL,rk,tj,FR⟩:=a8;have Jl:bz (g.ds.take 0)=0:=rfl;rw[Jl]at rk tj;refine aD.mk _ ⟨rfl,_,_,_,.inr ⟨_,.head _,rfl,rfl⟩,rfl,rfl⟩ ?_;refine⟨_,_,.sub (.cons _ (.cons _ (.refl _))) .refl,λb o h=>bk _ _ (dF _ _ h),gN,L,cN,rfl,hX,lL,by omega,λx=>by rw[tj];omega,FR,rfl⟩
def qC(J:aH)(os:a')(e:Nat):aH:=match os.a with
 |some g=>ins J g (.cells os.aS.toArray e (0,0))| none=>J
def GS{b6:List Nat}{os:a'}(aF:∀ g,os.a=some g->g ∉ b6):h1 b6 J (os.aQ e++post) (qC J os e) post:=by
 obtain⟨a,n,c,aS⟩:=os;cases a with
 |none=>exact .refl| some g=>exact .oT rfl (aF g rfl) .refl
def DJ{os:a'}(h:∀ x∈os.aQ e++M,J x.num=none):∀ b o,J b=some o->qC J os e b=some o:=by
 obtain⟨a,n,c,aS⟩:=os;cases a with
 |none=>exact λ_ _ h=>h
 |some g=>exact ph (h ⟨g,_⟩ (.head _))
def DK{os:a'}{b:Nat}(h:os.ok size xs)(ag:os.n*b<=140737488355328):dX (qC J os e) (os.a.map λg=>⟨g,0,none⟩) os.n os.c size b xs:=by
 obtain⟨a,n,c,aS⟩:=os;cases a with
 |none=>obtain⟨U,aa⟩:=h.nil rfl;exact⟨h.len,⟨by simp only at U aa |-;omega,ag⟩,.inl U⟩
 |some g=>obtain⟨U,aa,ae,aR⟩:=h.cap g rfl;exact⟨h.len,⟨aa,ag⟩,.inr ⟨⟨g,0,none⟩,rfl,rfl,aS.toArray,e,(0,0),sf ..,by simpa using aR⟩⟩
def DL(I:aH):List (Nat×List Nat)->aH
 |[]=>I| p::L=>DL (ins I p.1 (.cells (p.2.map bE).toArray 3 (0,0))) L
def Xm{b6:List Nat}{M:List aE}:∀ {I:aH} (kb:List (Nat×List Nat)),(∀ p∈kb,p.1 ∉ b6)->h1 b6 I (kb.map fb++M) (DL I kb) M
 |I,[],_=>.refl| I,p::L,h=>.oT rfl (h p (.head _)) (Xm L λq az=>h q (.tail _ az))
def Xn:∀ {I:aH} (kb:List (Nat×List Nat)),(∀ p∈kb,I p.1=none)->(kb.map (·.1)).Nodup->(∀ b o,I b=some o->DL I kb b=some o)/\∀ p∈kb,DL I kb p.1=some (.cells (p.2.map bE).toArray 3 (0,0))
 |I,[],_,_=>⟨λ_ _ h=>h,λp aK=>by cases aK⟩
 |I,p::L,h,an=>by
  rw[ek,mo]at an;have bx:∀ q∈L,(ins I p.1 (.cells (p.2.map bE).toArray 3 (0,0))) q.1=none:=λq az=>by unfold ins;rw[gS λe=>an.1 (dp.2 ⟨q,az,e⟩)];exact h q (.tail _ az)
  obtain⟨U,aa⟩:=Xn L bx an.2;refine⟨λb o ag=>U b o (ph (h p (.head _)) b o ag),λq az=>?_⟩;rcases et.1 az with rfl | az;·exact U _ _ (sf ..)
  ·exact aa q az
def nr(x:qk):qk:=⟨x.d.A1,x.bL⟩
def gZ(g:cE)(s:ByteArray):cu:=⟨(kI g.ds).map nr,s,0⟩
def ahf{g:cE}(s:ByteArray){k:Nat}(af:k<(kI g.ds).length):(gZ g s).av k=nr (kI g.ds)[k]:=by simp[cu.av,gZ,dI,af]
def wv(ds:List bm):(kI ds).length=bz ds:=by simp[kI,F0]
def DM{g:cE}(hm:me g)(dY:∀ d∈g.ds,∀ n∈d.t.ns,0<=n.k){s:ByteArray}(ap:s.size<=4096):(∀ k,pA (gZ g s) k)/\∀ k,k<bz g.ds->tq (gZ g s) (bz g.ds) k:=by
 have a5:=NO hm dY (s:=s) (av:=0) (bi _) ap;have bY:(rn g s 0).ns.length=bz g.ds:=wv g.ds;have gz:∀ k (af:k<bz g.ds),∃ a:qk,Jo (rn g s 0) a/\(gZ g s).av k=nr a:=λk af=>by
  have kJ:k<(kI g.ds).length:=by rw[wv];exact af
  exact⟨_,a5.ns _ (cZ kJ),ahf s kJ⟩
 refine⟨λk=>?_,λk af=>?_⟩
 ·by_cases af:k<bz g.ds
  ·obtain⟨a,ax,e⟩:=gz k af;rw[show pA (gZ g s) k ↔ pA (gZ g s) k from Iff.rfl];refine⟨by rw[e];exact ax.k.1,λU=>?_,by rw[e];exact ax.k.2,λb2=>?_⟩
   ·rw[e]at U |-;have:=ax.one U
    match ab:a.bL,this with
    |[q],_=>exact⟨q,rfl⟩
   ·rw[e]at b2 |-;have:=ax.l7 b2;show a.d.hi=-1\/(0<=a.d.hi/\a.d.hi<=99);omega
  ·have e:(gZ g s).av k=⟨NA,[]⟩:=by
    have:(kI g.ds).length<=k:=by rw[wv];omega
    simp[cu.av,gZ,dI,this]
   refine⟨by rw[e];exact Int.le_refl 0,λU=>?_,by rw[e];show(0:Int)<10;omega,λb2=>?_⟩;·rw[e]at U;have aa:(0:Int)=3\/6<=(0:Int):=U;omega
   ·rw[e]at b2;have aa:(0:Int)=6:=b2;omega
 ·obtain⟨a,ax,e⟩:=gz k af;refine⟨by rw[e];exact ax.k.1,λU=>?_,λq az=>?_,λb2=>?_⟩
  ·rw[e]at U |-;have aa:=ax.one U;show a.bL.getD 0 0<_;have ay:a.bL.getD 0 0=a.bL[0]:=by simp[dI,aa]
   rw[ay,<-bY];exact ax.bL _ (cZ (by omega))
  ·rw[e]at az;rw[<-bY];exact ax.bL q az
  ·rw[e]at b2 |-;exact(ax.l7 b2).2.1
def PA(c:b8):bW:=⟨c.n,c.to,bif Nat.beq c.aA 3 then 2 else bif Nat.beq c.aA 2 then 1 else 0,0⟩
def ahg{z a:Nat}{c:b8}(h:jU z a c):(PA c).ce=c:=by
 rcases h with rfl | rfl | ⟨h,-⟩
 ·rfl
 ·rfl
 ·obtain⟨n,to,aA⟩:=c;simp only at h;subst h;rfl
open Classical in
noncomputable def tD(P:cu)(N:Nat)(k a:Nat):bW:=if k<N/\a<=P.s.size then g8 else PA (bj P k a)
def GU{P:cu}{N k a:Nat}(af:k<N)(ax:a<=P.s.size):tD P N k a=g8:=dd ⟨af,ax⟩
def Xo(P:cu)(N:Nat):ib P N (tD P N):=by
 have hd:∀ k a,¬ (k<N/\a<=P.s.size)->(tD P N k a).ce=bj P k a:=λk a h=>by unfold tD;rw[cG h];exact ahg (tp P k a)
 refine⟨λk a=>?_,λk a h=>?_,λk a af ax _ _ h=>?_,λk a af ax=>?_,hd⟩
 ·unfold tD;split
  ·exact bi _
  ·unfold PA;cases Nat.beq (bj P k a).aA 3<;>cases Nat.beq (bj P k a).aA 2<;>simp
 ·by_cases e:k<N/\a<=P.s.size
  ·rw[GU e.1 e.2]at h;exact absurd rfl h
  ·exact(hd k a e).symm
 ·rw[GU af ax]at h;exact absurd rfl h
 ·rw[GU af ax];exact⟨bi _,bi _,bi _⟩
structure lj(I:aH)(g:cE)(s:ByteArray)(t:dt)(T:Nat->Nat->bW):Prop where
 ok:t.ok I T
 inv:ib t.P t.nn T
 P:t.P=gZ g s
 ts:t.s=s
 all:∀ k b,(T k b).ce=bj (gZ g s) k b
 n0:t.n0=t.nn
 nn:t.nn=bz g.ds
 rv:∃ c1 ez,t.rv=.slice c1 g.n ez/\dX I c1 g.n ez 1 8 ((ff 0 g.ds).map bE)
 nv:∃ eZ fV,t.nv=.slice eZ g.n fV/\dX I eZ g.n fV 1 16 (g.ds.map sy)
def dt.ok.mono{t:dt}{T:Nat->Nat->bW}(h:t.ok I T)(bx:∀ b o,I b=some o->I' b=some o):t.ok I' T:=
 { h with aA:=bx _ _ h.aA,ns:=h.ns.mono bx,ic:=λy aG=>(h.ic y aG).mono bx,rw:=h.rw.mono bx,c2:=λk af aq=>(let ⟨cs,gp,aj,U,aa⟩:=h.c2 k af aq;⟨cs,gp,aj,bx _ _ U,aa⟩) }
def lj.mono{g:cE}{s:ByteArray}{t:dt}{T:Nat->Nat->bW}(h:lj I g s t T)(bx:∀ b o,I b=some o->I' b=some o):lj I' g s t T:=by obtain⟨c1,ez,aC,ay⟩:=h.rv;obtain⟨eZ,fV,bf,b3⟩:=h.nv;exact { h with ok:=h.ok.mono bx,rv:=⟨c1,ez,aC,ay.mono bx⟩,nv:=⟨eZ,fV,bf,b3.mono bx⟩ }
def dt.ok.kL{t:dt}{T:Nat->Nat->bW}(h:t.ok I T)(bx:∀ b o,I b=some o->I' b=some o)(ag:I' t.ba=some (.cells (t.cs T).toArray 106 (0,0))):({ t with n0:=t.nn }:dt).ok I' T:=by
 have hm:=h.mono bx;refine⟨hm.aA,hm.ns,hm.ic,hm.Ga,hm.nk,hm.rw,hm.eo,λk af aq=>?_,λk af aq=>?_,hm.sz,hm.many⟩
 ·by_cases dY:k<t.n0
  ·exact hm.c2 k af dY
  ·refine⟨_,_,_,by rw[hm.new k af (by omega)];exact ag,?_⟩;rw[hm.new k af (by omega)];show((t.cs T).toArray.toList.drop ((k-t.n0)*(t.w*4))).take (t.w*4)=_;unfold dt.cs;rw[yB _ (t.w*4) (λj=>A2 T _ t.w) _ (k-t.n0) (by rw[qs];simp only at aq;omega),nj,yY (by omega)];rfl
 ·have U:k<t.rows.length:=af;have aa:=hm.Jz;have ae:t.nn<=k:=aq;omega
def Xp{J:aH}:∀ {kb:List (Nat×List Nat)} {ns:List a3},(∀ p∈kb,J p.1=some (.cells (p.2.map bE).toArray 3 (0,0))/\p.2.length<=1048576/\∀ x∈p.2,x<=1048576)->(∀ n∈ns,n.ok J)->∀ y∈iB kb ns,y.ok J/\(∃ p∈kb,y.aM=p.2.map λ(k:Nat)=>(k:Int))/\∃ n∈ns,y.t=n.t
 |[],ns,_,_,y,aG=>by simp[iB]at aG
 |p::kb,[],_,_,y,aG=>by simp[iB]at aG
 |p::kb,n::ns,h,an,y,aG=>by
  have e:iB (p::kb) (n::ns)=oF p.1 p.2 n::iB kb ns:=rfl;rw[e]at aG;rcases et.1 aG with rfl | aG;·obtain⟨U,aa,ae⟩:=h p (.head _);exact⟨afR (an n (.head _)) U aa ae,⟨p,.head _,rfl⟩,n,.head _,rfl⟩
  ·obtain⟨i1,⟨q,i2,i3⟩,m,i4,i5⟩:=Xp (λq az=>h q (.tail _ az)) (λm hm=>an m (.tail _ hm)) y aG;exact⟨i1,⟨q,.tail _ i2,i3⟩,m,.tail _ i4,i5⟩
def PB:∀ {kb:List (Nat×List Nat)} {ns:List a3},kb.length=ns.length->(iB kb ns).map a3.pn=List.zipWith (λp n=>⟨n.A1,p.2⟩) kb ns
 |[],[],_=>rfl| p::kb,n::ns,h=>by show(oF p.1 p.2 n).pn::(iB kb ns).map a3.pn=_;rw[afQ,PB (by simpa using h)];rfl
def PC{ds:List bm}{a0:Nat}:∀ {kb:List (Nat×List Nat)} {ns:List a3},kb.map (·.2)=ns.map (eR ds a0)->List.zipWith (λ(p:Nat×List Nat) (n:a3)=>(⟨n.A1,p.2⟩:qk)) kb ns=ns.map (xD ds a0)
 |[],[],_=>rfl| p::kb,n::ns,h=>by rw[ek,ek,ta]at h;rw[List.zipWith_cons_cons,ek,PC h.2,h.1];rfl
def wx(ds:List bm)(i:Nat):List qk:=(ng 0 (ds.take i)).map λp=>nr ⟨p.2,eR ds p.1 p.2⟩
def Xq:∀ (b:Nat) (A B:List bm),ng b (A++B)=ng b A++ng (b+bz A) B
 |b,[],B=>by simp[ng,bz]
 |b,d::A,B=>by
  have e:bz (d::A)=d.t.ns.length+bz A:=by simp[bz]
  rw[qa,ng,ng,Xq _ A B,eL,e,pR]
def ahh(hi:i<ds.length):wx ds (i+1)=wx ds i++ds[i].t.ns.map (xD ds (bz (ds.take i))):=by unfold wx;rw[hR hi,Xq,fC,dK];congr 1;simp[ng,xD,nr]
def ahi(ds:List bm):wx ds ds.length=(kI ds).map nr:=by unfold wx kI;rw[If,jt];rfl
def ahj(ds:List bm)(i:Nat):(wx ds i).length=bz (ds.take i):=by simp[wx,F0]
def qD(ds:List bm):Nat->List bB->List qk
 |_,[]=>[]| b,t::ts=>t.ns.map (xD ds b)++qD ds (b+t.ns.length) ts
def fH(ts:List bB)(i:Nat):Nat:=((ts.take i).map λt=>t.ns.length).sum
def Kf{ts:List bB}(h:i<ts.length):fH ts (i+1)=fH ts i+ts[i].ns.length:=by unfold fH;rw[hR h,fC,Fv];simp only[ek,p0,ug,List.sum_nil,rW]
def Xr(t:bB)(ts:List bB)(i:Nat):fH (t::ts) (i+1)=t.ns.length+fH ts i:=by unfold fH;simp
def PD{ts:List bB}:∀ {i j:Nat},i<=j->j<=ts.length->fH ts i<=fH ts j
 |i,0,h,_=>by
  obtain rfl:i=0:=by omega
  exact b1 _
 |i,j+1,h,ak=>by
  by_cases e:i=j+1;·rw[e];exact b1 _
  ·have U:=PD (ts:=ts) (i:=i) (j:=j) (by omega) (by omega);rw[Kf (by omega:j<ts.length)];omega
def Xs{ds:List bm}:∀ {ts:List bB} {b i j:Nat} (hi:i<ts.length) (ak:j<ts[i].ns.length),(qD ds b ts)[fH ts i+j]?=some (xD ds (b+fH ts i) ts[i].ns[j])
 |t::ts,b,0,j,hi,ak=>by have gx:j<t.ns.length:=ak;rw[qD,show fH (t::ts) 0=0 from rfl,dK,oX (by rw[dx];exact gx),vj,fJ gx];rfl
 |t::ts,b,i+1,j,hi,ak=>by have bc:=Xs (ds:=ds) (ts:=ts) (b:=b+t.ns.length) (i:=i) (j:=j) (by simpa using hi) (by simpa using ak);rw[qD,Xr,pd (by rw[dx];omega),dx,show t.ns.length+fH ts i+j-t.ns.length=fH ts i+j by omega,bc,pR];rfl
def PE(xP:List bm):∀ (b:Nat) (ds:List bm),qD xP b (ds.map (·.t))=(ng b ds).map λp=>nr ⟨p.2,eR xP p.1 p.2⟩
 |_,[]=>rfl| b,d::ds=>by rw[ek,qD,ng,fC,jt,PE xP _ ds];rfl
def Kg(ds:List bm)(more:List bB)(hi:i<=ds.length):fH (ds.map (·.t)++more) i=bz (ds.take i):=by unfold fH bz;rw[EU (by rw[dx];exact hi),<-List.map_take,jt];rfl
def GV{β:Type}{l:List α}{f g:α->List β}(h:∀ x∈l,f x=g x):l.flatMap f=l.flatMap g:=by
 induction l with
 |nil=>rfl| cons a l bc=>rw[pZ,pZ,h a (.head _),bc λx ab=>h x (.tail _ ab)]
def PF{l:List Nat}{x:Nat}(h:x∈l):x<=l.sum:=by
 induction l with
 |nil=>cases h
 |cons a l bc=>
  rw[ug];rcases et.1 h with rfl | h;·omega
  ·have:=bc h;omega
def ahk{t:dt}(aq:t.n0=0):t.cs (tD t.P t.nn)=(List.replicate (t.nn*t.w) g8).flatMap bW.cells:=by rw[<-Oi];unfold dt.cs lb;rw[aq,zp];refine GV λj ak=>GV λa ax=>?_;rw[dK,GU (j2.1 ak)];have aa:a<t.s.size+1:=j2.1 ax;show a<=t.s.size;omega
def iW(x:Nat×Nat):List Value:=[.int .i64 x.1,.int .i64 x.2]
def wy(x:Nat×Nat):(iW x).length=2:=rfl
structure ahl(A gi:List (Nat×Nat))(os0:a')(x:Nat×a'×List (Nat×Nat)):Prop where
 i:2*x.1<=gi.length+1
 ok:x.2.1.ok 2 ((A++x.2.2).flatMap iW)
 len:x.2.2.length=gi.length
 av:∀ k,k<gi.length->x.2.2[k]?=if k<x.1\/gi.length<=k+x.1 then gi[gi.length-1-k]? else gi[k]?
 a:x.2.1.a=os0.a
 v:x.2.1.val=os0.val
structure rI(I:aH)(t:dt)(T:Nat->Nat->bW)(lo:Nat:=0):Prop where
 ok:t.ok I T
 inv:ib t.P t.nn T
 all:∀ k b,lo<=b->(T k b).ce=bj t.P k b
 n0:t.n0=t.nn
 cn:∀ k,k<t.nn->tq t.P t.nn k
 na:∀ k,pA t.P k
 jW:y3 t.P
def rI.kn{t:dt}{T:Nat->Nat->bW}(h:rI I t T lo){k a:Nat}(aw:lo<=a)(ax:a<=t.s.size):cJ t.P k a=jV (T k a).ce:=by unfold cJ;rw[oD (show a<=t.P.s.size from ax),h.all k a aw]
def rI.aA{t:dt}{T:Nat->Nat->bW}(h:rI I t T lo){k a:Nat}(aw:lo<=a)(ax:a<=t.s.size):((T k a).aA=2/\(cJ t.P k a).aA=3/\(cJ t.P k a).to=(T k a).to/\(cJ t.P k a).n=min (T k a).n 65537)\/((T k a).aA≠2/\(cJ t.P k a).aA≠3):=by
 rw[h.kn aw ax];rcases rs (h.inv.aA k a)with⟨e,a4⟩ | ⟨e,a4⟩ | ⟨e,a4⟩
 ·right
  rw[e,a4];exact⟨by decide,by decide⟩
 ·right
  rw[e,a4];exact⟨by decide,by decide⟩
 ·left
  rw[a4];exact⟨e,rfl,rfl,rfl⟩
def GW(b bt:Nat):aE:=⟨b,.cells [ptr bt].toArray 30 (0,0)⟩
def PG(b to:Nat):aE:=⟨b,.cells [.int .i64 to].toArray 3 (0,0)⟩
def Kh(b:Nat)(v:Value):aE:=⟨b,.cells [v].toArray 244 (0,0)⟩
def wz(X:aE)(bt dS fc e5 to:Nat)(os:a'):List aE:=X::GW dS bt::PG fc to::Kh e5 os.val::os.aQ 243
def Ki{t:dt}{T:Nat->Nat->bW}(h:rI I t T lo)(X:aE){dS fc e5 k:Nat}{os:a'}(cj:os.ok 2 (L.flatMap iW))(af:k<t.nn)(eS:lo<=to)(aa:to<=t.s.size)(bQ:(T k to).aA=2->L.length<=1048576) :
  Spec Tryz.prog 209 [.int .i64 k,ptr dS,ptr fc,ptr e5] I (wz X t.bt dS fc e5 to os) λv I' M'=>I'=I /\
   (((cJ t.P k to).aA≠3/\v=.bool false/\M'=wz X t.bt dS fc e5 to os) \/
    ((cJ t.P k to).aA=3/\v=.bool true/\∃ bA:a',bA.ok 2 ((L++bif Nat.beq (cJ t.P k to).n 0 then []else [(k,to)]).flatMap iW)/\M'=wz X t.bt dS fc e5 (cJ t.P k to).to bA)):=by
 refine bU [] aT Tryz.func209 rfl rfl rfl ?_;intro B aq;have a5:=h.ok;have cr:=a5.sz;have cf:=h.aA (k:=k) eS aa;obtain⟨k9,hX,lL⟩:=h.inv.rg k to af aa;have hX:(T k to).to<=t.s.size:=hX;have Xk:os.n=L.length:=by have:=cj.len;rw[g3 _ 2 wy]at this;omega
 obtain⟨c1,jX,r,ao,hx,-,ie⟩:=a5.row af;have ea:t.n0<t.nn->∀ M:List aE,t.aQ T∈M:=λe=>absurd e (by have:=h.n0;omega);refine cU.draw aT rfl rfl rfl ?_;refine aD.mk _ (dP (k:=0) (n:=1) (cs:=[ptr t.bt]) (T:=30) (b:=dS) (.tail _ (.head _)) (by simp)) ?_;refine aD.mk _ (a5.dH (j:=4) (by decide)) ?_;refine a7.mk c1 k jX rfl af ?_;refine aD.mk _ (hx _) ?_;refine aD.mk _ (dP (k:=0) (n:=1) (cs:=[.int .i64 to]) (T:=3) (b:=fc) (.tail _ (.tail _ (.head _))) (by simp)) ?_;refine a7.mk r to rfl rfl (by show to<t.s.size+1;omega) ?_;refine aD.mk _ (ie _ (λe=>ea e _) to aa) ?_;generalize T k to=c at *;refine cw.mk λdA TV ahd=>?_;refine cV.mk [] _ _ _ rfl rfl (bN rfl) rfl ?_;have ld:∀ {M:List aE} j,j+1<=4->(⟨dA,.cells c.cells.toArray 106 (0,0)⟩:aE)∈M->bD I M ((⟨dA,0,none⟩:Addr).add j) 1 ((c.cells.drop j).take 1):=λj ak bb=>dP bb ak;refine aD.mk _ (ld 2 (by decide) (.head _)) ?_;refine aI.mk (λe=>?_) (λe=>?_)
 ·have a4:c.aA≠2:=λay=>by rw[ay]at e;cases e
  rcases cf with cf | cf;·exact absurd cf.1 a4
  exact⟨_,_,.sub (.cons _ (.refl _)) .refl,rfl,.inl ⟨cf.2,rfl,rfl⟩⟩
 have ko:c.aA=2:=by have ay:(!decide ((c.aA:Int)=2))=false:=e;simp only[Az,e7]at ay;omega
 rcases cf with⟨-,aV,aX,bq⟩ | cf
 rotate_left
 ·exact absurd ko cf.1
 refine aD.mk _ (ld 0 (by decide) (.head _)) ?_;refine aI.mk (λe=>?_) (λe=>?_)
 ·have jN:c.n≠0:=by have:(0:Int)<(c.n:Int):=cv e;omega
  have uo:Nat.beq (cJ t.P k to).n 0=false:=by rw[xq];exact λe=>by have:=cM e;omega
  have zA:=bQ ko;refine aD.mk _ (dP (k:=0) (n:=1) (cs:=[os.val]) (T:=244) (b:=e5) (.tail _ (.tail _ (.tail _ (.tail _ (.head _))))) (by simp)) ?_;refine aD.mk _ (dP (k:=0) (n:=1) (cs:=[.int .i64 to]) (T:=3) (b:=fc) (.tail _ (.tail _ (.tail _ (.head _)))) (by simp)) ?_;refine cw.mk λb9 fK hF=>?_;refine bp.VS aT rfl (by simp) (e:=243) rfl rfl rfl os cj rfl (cs:=iW (k,to)) rfl rfl rfl [⟨dA,.cells c.cells.toArray 106 (0,0)⟩,X,GW dS t.bt,PG fc to,Kh e5 os.val] rfl (by omega) (by show(os.n+1)*16<=_;omega) ?_;rintro sG sk-yx;refine cV.mk [⟨dA,.cells c.cells.toArray 106 (0,0)⟩,X,GW dS t.bt,PG fc to] (sG.aQ 243) [os.val].toArray 244 rfl rfl (bN rfl) rfl ?_;refine aD.mk _ (ld 1 (by decide) (.head _)) ?_;refine aW.mk (c.to:Int) (e0 rfl (by omega)) ?_;refine cV.mk [⟨dA,.cells c.cells.toArray 106 (0,0)⟩,X,GW dS t.bt] (Kh e5 sG.val::sG.aQ 243) [.int .i64 to].toArray 3 rfl rfl (bN rfl) rfl ?_;refine⟨_,wz X t.bt dS fc e5 c.to sG,.sub (.cons _ (.refl _)) .refl,rfl,.inr ⟨aV,rfl,sG,?_,by rw[aX]⟩⟩;rw[uo,bd,jP];simpa using yx
 ·have jN:c.n=0:=by have:¬ (0:Int)<(c.n:Int):=ct e;omega
  refine aD.mk _ (ld 1 (by decide) (.head _)) ?_;refine aW.mk (c.to:Int) (e0 rfl (by omega)) ?_;refine cV.mk [⟨dA,.cells c.cells.toArray 106 (0,0)⟩,X,GW dS t.bt] (Kh e5 os.val::os.aQ 243) [.int .i64 to].toArray 3 rfl rfl (bN rfl) rfl ?_;refine⟨_,wz X t.bt dS fc e5 c.to os,.sub (.cons _ (.refl _)) .refl,rfl,.inr ⟨aV,rfl,os,?_,by rw[aX]⟩⟩;rw[bq,jN,show Nat.beq (min 0 65537) 0=true from rfl,bg,c8];exact cj
def PH(dS fc e5:Nat):Value:=.func (.func 209) #[] #[ptr dS,ptr fc,ptr e5]
structure Bv(lo z:Nat)(L parts:List (Nat×Nat))(a6:List (Nat×Nat))(to:Nat)(os:a'):Prop where
 lo:lo<=to
 hi:to<=z
 ok:∃ kh,os.ok 2 ((L++kh).flatMap iW)/\kh++a6=parts
def Bv.next{z:Nat}{p a6 kh:List (Nat×Nat)}{PI:Nat}{hf:a'}(aw:lo<=PI)(aN:PI<=z)(a5:hf.ok 2 (((L++kh)++p).flatMap iW))(fv:kh++(p++a6)=parts):Bv lo z L parts a6 PI hf:=
 ⟨aw,aN,kh++p,by rw[<-eL];exact a5,by rw[eL];exact fv⟩
def PJ:(Bo::DD::DE::DF::D).Perm (DD::DF::Bo::DE::D):=by have U:([Bo,DD,DE,DF]:List aE).Perm [DD,DF,Bo,DE]:=(by decide:[0,1,2,3].Perm [1,3,0,2]).map λi=>[Bo,DD,DE,DF].getD i Bo;exact U.append_right D
def Kj:List.Sublist D (DD::DF::Bo::DE::D):=.cons _ (.cons _ (.cons _ (.cons _ (.refl _))))
def Xt{t:dt}{T:Nat->Nat->bW}(h:rI I t T lo){os:a'}(cj:os.ok 2 (L.flatMap iW)){k a:Nat}(af:k<t.nn)(uS:lo<=a)(aa:a<=t.s.size)(aK:jh t.P (cJ t.P) k a parts)(ag:L.length+parts.length<=1048576) :
  Spec Tryz.prog 167 [ptr t.bt,os.val,.agg #[.int .i64 k,.int .i64 a]] I (os.aQ 243) λv I' M'=>I'=I/\∃ bA:a',v=bA.val/\bA.ok 2 ((L++parts).flatMap iW)/\M'=bA.aQ 243:=by
 refine bU [3,4,8] aT Tryz.func167 rfl rfl rfl ?_;intro B aq;have a5:=h.ok;have cr:=a5.sz;obtain⟨y,aG,iU,gO,iA,hL,ad,bI,bl⟩:=a5.av af;have eg:=gO.kn;have aog:y.kn<=140737488355328:=by have:=gO.a2.cap.2;omega
 obtain⟨h9,PK⟩:∃ h9,h9=y.aM.map Int.toNat:=⟨_,rfl⟩;have zA:h9.length=y.aM.length:=by rw[PK,dx]
 have ask:∀ j (ak:j<h9.length),h9[j]<t.nn/\∃ uZ,y.hK=some uZ/\∀ M,bD I M (uZ.add (j*1)) 1 [Value.int .i64 ((h9[j]:Nat):Int)]:=λj ak=>by
  have gx:j<y.aM.length:=by omega
  obtain⟨uZ,aV,aX⟩:=gO.a2.one (f:=λ(k:Int)=>Value.int .i64 k) (j:=j) (by omega) gx;have ab:=hL _ (cZ gx);have e:h9[j]=y.aM[j].toNat:=by simp only[PK,lH]
  rw[e];refine⟨ab.2,uZ,aV,λM=>?_⟩;have e:((y.aM[j].toNat:Nat):Int)=y.aM[j]:=by omega
  rw[e];exact aX M
 have h3:=(h.na k).one;unfold jh at aK;rw[iU]at aK h3;have mM:y.pn.bL=h9:=PK.symm;have Xu:t.P.a0=0:=rfl;rw[Xu,mM]at aK;rw[mM]at h3;refine cw.mk λdS kK ahm=>?_;refine cw.mk λe5 aoh PL=>?_;refine cU.draw aT rfl rfl rfl ?_;refine aD.mk _ (dP (k:=0) (n:=1) (cs:=[ptr t.bt]) (T:=30) (b:=dS) (.tail _ (.head _)) (by simp)) ?_;refine aD.mk _ (a5.dH (j:=3) (by decide)) ?_;refine a7.mk ad k bI rfl af ?_;refine aD.mk _ (bl _) ?_;refine cw.mk λu0 aoi aoj=>?_;refine cV.mk [] _ _ _ rfl rfl (bN rfl) rfl ?_;refine cw.mk λfc On Oo=>?_;refine cV.mk [] _ [.int .i64 0].toArray 3 rfl rfl (bN rfl) rfl ?_;have eh:∀ {M:List aE} j,j+1<=9->(⟨u0,.cells y.cells.toArray 59 (0,0)⟩:aE)∈M->bD I M ((⟨u0,0,none⟩:Addr).add j) 1 ((y.cells.drop j).take 1):=λj ak bb=>dP bb ak;refine aD.mk _ (eh 0 (by decide) (.tail _ (.head _))) ?_;have Xv:∀ {q to:Nat},to<=t.s.size->(cJ t.P q to).aA=3->to<=(cJ t.P q to).to/\(cJ t.P q to).to<=t.s.size:=fun {q to} iz ae=>by have:=(NZ (P:=t.P) rfl q to).m ae;rw[Xu,dK]at this;exact⟨this.1,this.2.1⟩
 have fin:∀ {to:Nat} {os:a'},Bv lo t.s.size L parts [] to os->os.ok 2 ((L++parts).flatMap iW):=λhw=>by obtain⟨kh,dJ,c9⟩:=hw.ok;rw[c8]at c9;rwa [c9]at dJ
 have aok:∀ {os:a'} {to:Nat},(⟨u0,.cells y.cells.toArray 59 (0,0)⟩:aE)∈wz ⟨u0,.cells y.cells.toArray 59 (0,0)⟩ t.bt dS fc e5 to os:=.head _;have aR:∀ {os:a'} {to:Nat},bD I (wz ⟨u0,.cells y.cells.toArray 59 (0,0)⟩ t.bt dS fc e5 to os) ((⟨e5,0,none⟩:Addr).add 0) 1 (([os.val].drop 0).take 1):=fun {os to}=>dP (T:=244) (cs:=[os.val]) (.tail _ (.tail _ (.tail _ (.head _)))) (b1 _);have aol:∀ j:Int,y.pn.d.k=j ↔ y.k=j:=λj=>Iff.rfl;refine aI.mk (λg7=>?_) (λg7=>?_)
 ·have b2:y.pn.d.k=6:=cv g7;rw[dd b2]at aK;obtain⟨q,az⟩:=h3 (.inr (by omega));have Xw:y.aM.length=1:=by rw[<-zA,az];rfl
  obtain⟨jN,uZ,DN,tE⟩:=ask 0 (by omega);have cd:h9[0]'(by omega)=q:=by simp only[az];rfl
  rw[cd]at jN tE;have CO:k6 (cJ t.P) 0 q y.hi 0 a parts:=by rw[az]at aK;exact aK
  refine cx.inv (ι:=Nat×Nat×a') (λz=>{ cc:=[(4,.val (ptr e5)),(7,.val (ptr u0)),(9,.val (PH dS fc e5)),(10,.val (.int .i64 z.1))],ck:=I,de:=wz ⟨u0,.cells y.cells.toArray 59 (0,0)⟩ t.bt dS fc e5 z.2.1 z.2.2 }) (λz=>z.1<=1000001/\∃ a6,k6 (cJ t.P) 0 q y.hi z.1 z.2.1 a6/\Bv lo t.s.size L parts a6 z.2.1 z.2.2) (λz=>1000002-z.1) ?_ ?_;·exact⟨(0,a,os),⟨by simp,parts,CO,uS,aa,[],by rw[c8];exact cj,rfl⟩,.perm PJ .refl,ec,.nil⟩
  rintro⟨n,to,sG⟩⟨au,a6,e3,hw⟩;simp only at au e3 hw;have kq:=hw.hi;obtain⟨kh,yx,fv⟩:=hw.ok;have vR:(L++kh).length<=1048576:=by have:=congrArg List.length fv;rw[b5]at this |-;omega
  cases e3 with
  |stop ap=>
   refine aD.mk _ (eh 7 (by decide) (.head _)) ?_;refine bP.mk (λe=>?_) (λ_=>?_);·have ay:(!decide ((n:Int)=y.hi))=true:=e;rw[ap]at ay;simp at ay
   refine aD.mk _ aR ?_;exact⟨_,_,.sub Kj .refl,rfl,sG,rfl,fin hw,rfl⟩
  |fail ap k1=>
   have k1:(cJ t.P q to).aA=2:=k1;refine aD.mk _ (eh 7 (by decide) (.head _)) ?_;refine bP.mk (λ_=>?_) (λe=>?_)
   rotate_left
   ·have ay:(!decide ((n:Int)=y.hi))=false:=e;simp only[Az,e7]at ay;exact absurd ay ap
   refine aD.mk _ (eh 8 (by decide) (.head _)) ?_;refine a7.mk uZ 0 DN rfl (by omega) ?_;refine aD.mk _ (tE _) ?_;refine aZ.whole _ (Ki h _ yx jN hw.lo kq (λ_=>vR)) ?_;rintro v I' M' -⟨rfl,⟨ae,rfl,rfl⟩|⟨ae,-⟩⟩;·refine aI.mk (λe=>by cases e) (λ_=>?_);refine aD.mk _ aR ?_;exact⟨_,_,.sub Kj .refl,rfl,sG,rfl,fin hw,rfl⟩
   ·rw[k1]at ae;cases ae
  | @more _ _ l qE ap iR r=>
   have iR:(cJ t.P q to).aA=3:=iR;have r:k6 (cJ t.P) 0 q y.hi (n+1) (cJ t.P q to).to l:=r;have ed:=Xv kq iR;refine aD.mk _ (eh 7 (by decide) (.head _)) ?_;refine bP.mk (λ_=>?_) (λe=>?_)
   rotate_left
   ·have ay:(!decide ((n:Int)=y.hi))=false:=e;simp only[Az,e7]at ay;exact absurd ay ap
   refine aD.mk _ (eh 8 (by decide) (.head _)) ?_;refine a7.mk uZ 0 DN rfl (by omega) ?_;refine aD.mk _ (tE _) ?_;refine aZ.whole _ (Ki h _ yx jN hw.lo kq (λ_=>vR)) ?_;rintro v I' M' -⟨rfl,⟨ae,-⟩|⟨ae,rfl,hf,j5,rfl⟩⟩;·exact absurd iR ae
   ·refine aI.mk (λ_=>?_) (λe=>by cases e);refine aW.mk _ (b0 (i:=n) (by omega)) ?_;exact⟨(n+1,_,hf),⟨⟨by simp only;omega,l,r,Bv.next (jD hw.lo ed.1) ed.2 j5 fv⟩,by simp only;omega⟩,.refl,ec,.nil⟩
 have DO:¬ y.pn.d.k=6:=ct g7;rw[cG DO]at aK;refine aI.mk (λeY=>?_) (λeY=>?_)
 ·have bn:y.pn.d.k=5:=cv eY;rw[dd bn]at aK;obtain⟨ru,pB⟩:=aK;refine aD.mk _ (eh 8 (by decide) (.tail _ (.head _))) ?_;refine cx.inv (ι:=Nat) (λj=>{ cc:=[(4,.val (ptr e5)),(9,.val (PH dS fc e5)),(58,.val (.slice y.hK y.kn y.hk)),(59,.val (.int .i64 y.kn)),(60,.val (.int .i64 j))],ck:=I,de:=wz ⟨u0,.cells y.cells.toArray 59 (0,0)⟩ t.bt dS fc e5 a os }) (λj=>j<=h9.length/\uB (cJ t.P) 0 (h9.drop j) a/\parts=l' (cJ t.P) 0 (h9.drop j) a) (λj=>h9.length-j) ?_ ?_
  ·exact⟨0,⟨bi _,ru,pB⟩,.perm PJ .refl,ja,.nil⟩
  rintro j⟨ak,pb,q9⟩;refine aI.mk (λe=>?_) (λe=>?_)
  rotate_left
  ·have cI:¬ (j:Int)<(y.kn:Int):=ct e;rw[hJ (by omega)]at pb;exact pb.elim
  have aO:(j:Int)<(y.kn:Int):=cv e;have fq:j<h9.length:=by omega
  obtain⟨ju,uZ,DN,tE⟩:=ask j fq;rw[eE fq]at pb q9;generalize h9[j]=q at ju tE pb q9;refine a7.mk uZ j DN rfl (by omega) ?_;refine aD.mk _ (tE _) ?_;refine aZ.whole _ (Ki h _ cj ju uS aa (λ_=>by omega)) ?_;rintro v I' M' -⟨rfl,⟨ae,rfl,rfl⟩|⟨ae,rfl,hf,j5,rfl⟩⟩
  ·refine aI.mk (λe=>by cases e) (λ_=>?_);refine aW.mk _ (b0 (i:=j) (by omega)) ?_;have kK:Nat.beq (cJ t.P q (a-0)).aA 3=false:=by rw[xq];exact λe=>ae (cM e)
   refine⟨j+1,⟨⟨by omega,?_,?_⟩,by omega⟩,.refl,ja,.nil⟩
   ·rcases pb with e | e
    ·exact absurd e ae
    ·exact e.2
   ·rw[q9];simp only[l',kK,bd]
  ·refine aI.mk (λ_=>?_) (λe=>by cases e);have he:parts=bif Nat.beq (cJ t.P q a).n 0 then []else [(q,a)]:=by
    have kK:Nat.beq (cJ t.P q (a-0)).aA 3=true:=by rw[show(cJ t.P q (a-0)).aA=3 from ae];rfl
    rw[q9];simp only[l',kK,bg];rfl
   refine aD.mk _ aR ?_;exact⟨_,_,.sub Kj .refl,rfl,hf,rfl,by rw[he];exact j5,rfl⟩
 have Bw:¬ y.pn.d.k=5:=ct eY;rw[cG Bw]at aK;obtain⟨ru,pB⟩:=aK;refine aD.mk _ (eh 8 (by decide) (.tail _ (.head _))) ?_;refine cx.inv (ι:=Nat×Nat×a') (λz=>{ cc:=[(4,.val (ptr e5)),(9,.val (PH dS fc e5)),(29,.val (.slice y.hK y.kn y.hk)),(30,.val (.int .i64 y.kn)),(31,.val (.int .i64 z.1))],ck:=I,de:=wz ⟨u0,.cells y.cells.toArray 59 (0,0)⟩ t.bt dS fc e5 z.2.1 z.2.2 }) (λz=>z.1<=h9.length/\allM (cJ t.P) 0 (h9.drop z.1) z.2.1/\Bv lo t.s.size L parts (jg (cJ t.P) 0 (h9.drop z.1) z.2.1) z.2.1 z.2.2) (λz=>h9.length-z.1) ?_ ?_
 ·exact⟨(0,a,os),⟨bi _,ru,uS,aa,[],by rw[c8];exact cj,pB.symm⟩,.perm PJ .refl,ja,.nil⟩
 rintro⟨j,to,sG⟩⟨ak,pb,hw⟩;simp only at ak pb hw;refine aI.mk (λe=>?_) (λe=>?_)
 rotate_left
 ·have cI:¬ (j:Int)<(y.kn:Int):=ct e;rw[hJ (by omega)]at hw;refine aD.mk _ aR ?_;exact⟨_,_,.sub Kj .refl,rfl,sG,rfl,fin hw,rfl⟩
 have aO:(j:Int)<(y.kn:Int):=cv e;have fq:j<h9.length:=by omega
 obtain⟨ju,uZ,DN,tE⟩:=ask j fq;rw[eE fq]at pb hw;generalize h9[j]=q at ju tE pb hw;obtain⟨iR,q9⟩:=pb;have iR:(cJ t.P q to).aA=3:=iR;have kq:=hw.hi;obtain⟨kh,yx,fv⟩:=hw.ok;have vR:(L++kh).length<=1048576:=by have:=congrArg List.length fv;rw[b5]at this |-;omega
 have ed:=Xv kq iR;refine a7.mk uZ j DN rfl (by omega) ?_;refine aD.mk _ (tE _) ?_;refine aZ.whole _ (Ki h _ yx ju hw.lo kq (λ_=>vR)) ?_;rintro v I' M' -⟨rfl,⟨ae,-⟩|⟨ae,rfl,hf,j5,rfl⟩⟩
 ·exact absurd iR ae
 refine aW.mk _ (b0 (i:=j) (by omega)) ?_;refine⟨(j+1,_,hf),⟨⟨by simp only;omega,q9,Bv.next (jD hw.lo ed.1) ed.2 j5 ?_⟩,by simp only;omega⟩,.refl,ja,.nil⟩;rw[<-fv];have kK:Nat.beq (cJ t.P q (to-0)).aA 3=true:=by rw[show(cJ t.P q (to-0)).aA=3 from ae];rfl
 simp only[jg,kK,bg];show kh++((bif Nat.beq (cJ t.P q to).n 0 then []else [(q,to)])++jg (cJ t.P) 0 (h9.drop (j+1)) (cJ t.P q to).to)=kh++bif Nat.beq (cJ t.P q to).n 0 then jg (cJ t.P) 0 (h9.drop (j+1)) (cJ t.P q to).to else(q,to)::jg (cJ t.P) 0 (h9.drop (j+1)) (cJ t.P q to).to;cases Nat.beq (cJ t.P q to).n 0<;>rfl
def eD.cells(c:eD):List Value:=[.string c.name,.int .i64 c.lo,.int .i64 c.hi]
def eD.da(c:eD):c.cells.length=3:=rfl
structure Xx(m:dE)(kn:Nat->Nat->b8)(x:Nat×Nat):Prop where
 k:x.1<m.ns.n
 lo:m.a0<=x.2
 hi:x.2<=m.s.size
 aA:(kn x.1 (x.2-m.a0)).aA=3
def Bx(m:dE)(kn:Nat->Nat->b8)(x:Nat×Nat):Prop:=Xx m kn x/\(kn x.1 (x.2-m.a0)).n≠0
section
variable{m:dE}{kn:Nat->Nat->b8}
def Xy(h:∀ k p,y4 m.jW (m.a0+p) (kn k p)){q:Nat}(eS:m.a0<=to)(ae:(kn q (to-m.a0)).aA=3):m.a0<=(kn q (to-m.a0)).to/\(kn q (to-m.a0)).to<=m.s.size:=by have:=(h q (to-m.a0)).m ae;rw[yY eS]at this;exact⟨by omega,this.2.1⟩
def Xz(h:∀ k p,y4 m.jW (m.a0+p) (kn k p)):∀ (L:List Nat) (a:Nat),(∀ x∈L,x<m.ns.n)->m.a0<=a->a<=m.s.size->allM kn m.a0 L a->∀ x∈jg kn m.a0 L a,Bx m kn x
 |[],a,_,_,_,_,x,ab=>by cases ab
 |k::L,a,bQ,U,aa,⟨ae,aR⟩,x,ab=>by
  have an:=Xy h U ae;have bc:=Xz h L _ (λx ab=>bQ x (.tail _ ab)) an.1 an.2 aR;simp only[jg,ae]at ab;rw[show Nat.beq 3 3=true from rfl,bg]at ab;cases aq:Nat.beq (kn k (a-m.a0)).n 0 with
  |true=>rw[aq]at ab;exact bc x ab
  |false=>
   rw[aq]at ab;rcases et.1 ab with rfl | ab;·exact⟨⟨bQ k (.head _),U,aa,ae⟩,λe=>by rw[e]at aq;cases aq⟩
   ·exact bc x ab
def XA:∀ (L:List Nat) (a:Nat),(∀ x∈L,x<m.ns.n)->m.a0<=a->a<=m.s.size->∀ x∈l' kn m.a0 L a,Bx m kn x
 |[],a,_,_,_,x,ab=>by cases ab
 |k::L,a,bQ,U,aa,x,ab=>by
  simp only[l']at ab;cases ae:Nat.beq (kn k (a-m.a0)).aA 3 with
  |false=>rw[ae]at ab;exact XA L a (λx ab=>bQ x (.tail _ ab)) U aa x ab
  |true=>
   rw[ae,bg]at ab;cases aq:Nat.beq (kn k (a-m.a0)).n 0 with
   |true=>rw[aq]at ab;cases ab| false=>rw[aq,bd,iu]at ab;subst ab;exact⟨⟨bQ k (.head _),U,aa,cM ae⟩,λe=>by simp only at e;rw[e]at aq;cases aq⟩
def k6.ok(h:∀ k p,y4 m.jW (m.a0+p) (kn k p)){k:Nat}(af:k<m.ns.n){a:Nat}{l:List (Nat×Nat)}(hw:k6 kn m.a0 k hi t a l):m.a0<=a->a<=m.s.size->∀ x∈l,Bx m kn x:=by
 induction hw with
 |stop=>exact λ_ _ x ab=>by cases ab
 |fail=>exact λ_ _ x ab=>by cases ab
 | @more t a l ag ap ae r bc=>
  intro U aa x ab;have an:=Xy h U ae;rcases dW.1 ab with ab | ab
  ·cases aq:Nat.beq (kn k (a-m.a0)).n 0 with
   |true=>rw[aq]at ab;cases ab| false=>rw[aq,bd,iu]at ab;subst ab;exact⟨⟨af,U,aa,ae⟩,λe=>by simp only at e;rw[e]at aq;cases aq⟩
  ·exact bc an.1 an.2 x ab
def ahn(h:∀ k p,y4 m.jW (m.a0+p) (kn k p))(jr:m.ns.xs.length=m.ns.n)(cP:y3 m.jW){k a:Nat}(af:k<m.ns.n)(U:m.a0<=a)(aa:a<=m.s.size){l:List (Nat×Nat)}(aK:jh m.jW kn k a l):∀ x∈l,Bx m kn x:=by
 have Ob:m.jW.ns.length=m.ns.n:=by simp[dE.jW,jr]
 have ar:=cu.ad3 cP (k:=k) (by omega);have aw:∀ x∈(m.jW.av k).bL,x<m.ns.n:=λx ab=>by rw[<-Ob];exact ar.bL x ab
 unfold jh at aK;by_cases b2:(m.jW.av k).d.k=6
 ·rw[dd b2]at aK;have Xw:=ar.one (by omega);have aB:(m.jW.av k).bL.getD 0 0<m.ns.n:=by
   have e:(m.jW.av k).bL.getD 0 0=(m.jW.av k).bL[0]:=by simp[dI,Xw]
   rw[e];exact aw _ (cZ (by omega))
  exact k6.ok h aB aK U aa
 ·rw[cG b2]at aK;by_cases bn:(m.jW.av k).d.k=5
  ·rw[dd bn]at aK;rw[aK.2];exact XA _ _ aw U aa
  ·rw[cG bn]at aK;rw[aK.2];exact Xz h _ _ aw U aa aK.1
def PM(aB:y6 m.jW kn):∀ (L:List (Nat×Nat)),(∀ x∈L,Bx m kn x)->∃ n l,ga m.jW kn n L l/\L.length<=l.length
 |[],_=>⟨0,[],.nil,b1 _⟩
 |(k,a)::L,h=>by
  obtain⟨n,l,U,aa⟩:=PM aB L λx ab=>h x (.tail _ ab);obtain⟨⟨db,cR,eB,ha⟩,wa⟩:=h (k,a) (.head _);obtain⟨fA,dg,hY,hD,-⟩:=aB k (a-m.a0) ha;have e:m.jW.a0+(a-m.a0)=a:=by show m.a0+(a-m.a0)=a;simp only at cR;omega
  rw[e]at hY;refine⟨fA+n,dg++l,hY.app U,?_⟩;have:0<dg.length:=by unfold mb at hD;simp only at wa;omega
  rw[b5,dL];omega
end
def zB{v np:Value}(h:np=v):w8 (.val v) (.val np):=by rw[h];exact .refl
structure PN(m:dE)(kn:Nat->Nat->b8)(l:List eD)(n:Nat)(L:List (Nat×Nat))(os gP:a'):Prop where
 os:os.ok 2 (L.reverse.flatMap iW)
 eo:∀ x∈L,Xx m kn x
 aho:L.length<=1\/∀ x∈L,Bx m kn x
 g:∃ k8 iT,ga m.jW kn n L iT/\k8++iT=l/\gP.ok 3 (k8.flatMap eD.cells)
def PN.len{m:dE}{kn:Nat->Nat->b8}{l:List eD}{n:Nat}{os gP:a'}(h:PN m kn l n L os gP)(aB:y6 m.jW kn)(aw:l.length<=65536):L.length<=65537:=by
 rcases h.aho with U | U
 ·omega
 ·obtain⟨k8,iT,aV,aX,-⟩:=h.g;obtain⟨fA,dg,hY,hD⟩:=PM aB L U;have e:=aV.y9 hY;subst e;have:=congrArg List.length aX;rw[b5]at this;omega
def XB{a9:List aE}{os0:a'}{A gi:List (Nat×Nat)}(we:os0.ok 2 ((A++gi).flatMap iW))(ag:os0.n<=1099511627776){ad:Option Addr}{XC zC:Nat}(bk:XC=gi.length)(bu:0<gi.length->∃ g,os0.a=some g/\ad=some ⟨g,A.length*2,none⟩) :
  Spec Tryz.prog 168 [.slice ad XC zC] I (a9++(os0.aQ 243++post)) λv I' M'=>I'=I/\∃ bA:a',bA.val=os0.val/\bA.ok 2 ((A++gi.reverse).flatMap iW)/\M'=a9++(bA.aQ 243++post):=by
 subst bk;refine bU [] aT Tryz.func168 rfl rfl rfl ?_;intro B aq;have Xk:A.length+gi.length=os0.n:=by have:=we.len;rw[g3 _ 2 wy,b5]at this;omega
 refine aW.mk ((gi.length:Int)-1) (e0 rfl (by omega)) ?_;refine cx.inv (ι:=Nat×a'×List (Nat×Nat)) (λx=>{ cc:=[(0,.val (.slice ad gi.length zC)),(2,.val (.int .i64 x.1)),(3,.val (.int .i64 ((gi.length:Int)-1-x.1)))],cl:=[],ck:=I,de:=a9++(x.2.1.aQ 243++post) }) (λx=>ahl A gi os0 x) (λx=>gi.length-x.1) ?_ ?_
 ·refine⟨(0,os0,gi),⟨by simp,we,rfl,λk af=>?_,rfl,rfl⟩,.refl,.cons .refl (.cons .refl (.cons ?_ .nil)),.nil⟩
  ·simp only;rw[cG (by omega)]
  ·simp only[Int.ofNat_zero,Int.sub_zero];exact .refl
 rintro⟨i,os,l⟩⟨hi,cj,bY,gz,xQ,zD⟩;simp only at hi cj bY gz xQ zD;refine aI.mk (λh=>?_) (λh=>?_)
 rotate_left
 ·have cI:¬ (i:Int)<(gi.length:Int)-1-i:=ct h;refine⟨_,_,.refl,rfl,os,zD,?_,rfl⟩;have e:l=gi.reverse:=by
   refine Cr λk=>?_;by_cases af:k<gi.length
   ·rw[gz k af,List.getElem?_reverse af];split
    ·rfl
    ·congr 1;omega
   ·rw[yl (by omega),yl (by rw[xM];omega)]
  rw[<-e];exact cj
 have aO:(i:Int)<(gi.length:Int)-1-i:=cv h;obtain⟨j,ak⟩:∃ j:Nat,(gi.length:Int)-1-i=(j:Int):=⟨gi.length-1-i,by omega⟩;have eP:i<l.length:=by omega
 have fq:j<l.length:=by omega
 obtain⟨g,DP,rfl⟩:=bu (by omega);have Kk:=xQ.trans DP;have row:∀ {os:a'} {l:List (Nat×Nat)} (h:os.ok 2 ((A++l).flatMap iW)) (ax:os.a=some g) (q:Nat) (az:q<l.length) {M:List aE},(∀ x∈os.aQ 243,x∈M)->bD I M ((⟨g,A.length*2,none⟩:Addr).add (q*2)) 2 (iW l[q]):=fun {os l} h ax q az {M} bb=>by
  have:=a'.av (I:=I) (M:=M) (e:=243) wy (by decide) h bb ax (i:=A.length+q) (by rw[b5];omega);rw[ei _ rfl,<-iJ];have e:(A++l)[A.length+q]'(by rw[b5];omega)=l[q]:=by rw[WQ (by omega)];congr 1;omega
  rwa [e]at this
 have XD:∀ {os:a'} {l:List (Nat×Nat)} (h:os.ok 2 ((A++l).flatMap iW)) (ax:os.a=some g) (q:Nat) (az:q<l.length) (x:Nat×Nat) {K:List aE->Prop},(∀ bA:a',bA.val=os.val->bA.a=os.a->bA.ok 2 ((A++l.set q x).flatMap iW)->K (a9++(bA.aQ 243++post))) ->
   cV (a9++(os.aQ 243++post)) ((⟨g,A.length*2,none⟩:Addr).add (q*2)) (iW x) K:=fun {os l} h ax q az x {K} k=>by
  rw[ei _ rfl];refine a'.put iW 2 wy h (i:=A.length+q) (by rw[b5];omega) 0 (vs:=iW x) (b1 2) rfl x ?_ a9 post rfl ax (by simp only;omega) ?_;·show bO (iW _) 0 (iW x)=iW x;rfl
  ·intro bA aC ay bf b3;rw[List.set_append_right _ _ (by omega),FK]at b3;exact k bA aC ay b3
 refine cU.draw aT rfl rfl rfl ?_;refine a7.mk ⟨g,A.length*2,none⟩ j rfl ak (by omega) ?_;refine aD.mk _ (row cj Kk j fq λz a1=>r3 _ (n9 _ a1)) ?_;refine a7.mk ⟨g,A.length*2,none⟩ i rfl rfl (by omega) ?_;refine aD.mk _ (row cj Kk i eP λz a1=>r3 _ (n9 _ a1)) ?_;refine a7.mk ⟨g,A.length*2,none⟩ i rfl rfl (by omega) ?_;refine XD cj Kk i eP l[j] ?_;intro hf vo Kl j5;refine a7.mk ⟨g,A.length*2,none⟩ j rfl ak (by omega) ?_;refine XD j5 (Kl.trans Kk) j (by rw[AS];exact fq) l[i] ?_;intro rJ vV ahp An;refine aW.mk _ (b0 (i:=i) (by omega)) ?_;refine aW.mk ((gi.length:Int)-1-((i+1:Nat):Int)) (by rw[wrap_i64 ⟨by omega,by omega⟩];omega) ?_;refine⟨(i+1,rJ,(l.set i l[j]).set j l[i]),⟨⟨by simp only;omega,An,by simp only[AS];exact bY,λk af=>?_,(ahp.trans Kl).trans xQ,(vV.trans vo).trans zD⟩,by simp only;omega⟩,.refl,dO,.nil⟩;have wA:l[j]?=gi[j]?:=by rw[gz j (by omega),cG (by omega)]
 have aJ:l[i]?=gi[i]?:=by rw[gz i (by omega),cG (by omega)]
 have ahq:l[j]=gi[j]'(by omega):=by rw[fJ fq,fJ (by omega)]at wA;exact qi wA
 have ahr:l[i]=gi[i]'(by omega):=by rw[fJ eP,fJ (by omega)]at aJ;exact qi aJ
 simp only;rw[qZ,qZ];by_cases aC:j=k
 ·subst aC;rw[dd rfl,dd (by rw[AS];exact fq),dd (by omega),ahr,<-fJ];congr 1;omega
 ·rw[cG aC];by_cases ay:i=k
  ·subst ay;rw[dd rfl,dd eP,dd (by omega),ahq,<-fJ];congr 1;omega
  ·rw[cG ay,gz k af];by_cases bf:k<i\/gi.length<=k+i
   ·rw[dd bf,dd (by omega)]
   ·rw[cG bf,cG (by omega)]
def dt.mc(t:dt):dE:=⟨0,0,t.s,0,0,⟨t.ic.map λy=>⟨y.A1,none,0,0,y.aM.map Int.toNat⟩,none,t.nn,0⟩⟩
def dt.ahs(t:dt):t.mc.jW=t.P:=by unfold dE.jW dt.mc dt.P;simp only[jt];rfl
def Km{kn:Nat->Nat->b8}(cI:∀ k p,(kn k p).aA=3->p<=(kn k p).to):∀ (L:List Nat) (a:Nat),∀ x∈jg kn 0 L a,a<=x.2
 |[],a,x,ab=>by cases ab
 |k::L,a,x,ab=>by
  unfold jg at ab;cases ae:Nat.beq (kn k (a-0)).aA 3 with
  |false=>rw[ae,bd]at ab;exact Km cI L a x ab
  |true=>
   have aR:=cI k (a-0) (cM ae);rw[ae,bg]at ab;cases bn:Nat.beq (kn k (a-0)).n 0 with
   |true=>rw[bn,bg]at ab;have:=Km cI L _ x ab;omega
   |false=>
    rw[bn,bd]at ab;rcases et.1 ab with rfl | ab;·exact b1 _
    ·have:=Km cI L _ x ab;omega
def XE{kn:Nat->Nat->b8}:∀ (L:List Nat) (a:Nat),∀ x∈l' kn 0 L a,a<=x.2
 |[],a,x,ab=>by cases ab
 |k::L,a,x,ab=>by
  unfold l' at ab;cases ae:Nat.beq (kn k (a-0)).aA 3 with
  |false=>rw[ae,bd]at ab;exact XE L a x ab
  |true=>
   rw[ae,bg]at ab;cases bn:Nat.beq (kn k (a-0)).n 0 with
   |true=>rw[bn,bg]at ab;cases ab| false=>rw[bn,bd]at ab;rw[iu.1 ab];exact b1 _
def aht{kn:Nat->Nat->b8}(cI:∀ k p,(kn k p).aA=3->p<=(kn k p).to){k:Nat}{a:Nat}{l:List (Nat×Nat)}(h:k6 kn 0 k hi t a l):∀ x∈l,a<=x.2:=by
 induction h with
 |stop h=>intro x ab;cases ab| fail h aa=>intro x ab;cases ab
 | @more t a l ag h aa r bc=>
  intro x ab;have aR:=cI k (a-0) aa;rcases dW.1 ab with ab | ab
  ·cases bn:Nat.beq (kn k (a-0)).n 0 with
   |true=>rw[bn,bg]at ab;cases ab| false=>rw[bn,bd]at ab;rw[iu.1 ab];exact b1 _
  ·have:=bc x ab;omega
def ahu{P:cu}{kn:Nat->Nat->b8}(ag:P.a0=0)(cI:∀ k p,(kn k p).aA=3->p<=(kn k p).to){k a:Nat}{l:List (Nat×Nat)}(h:jh P kn k a l):∀ x∈l,a<=x.2:=by
 unfold jh at h;rw[ag]at h;by_cases b2:(P.av k).d.k=6
 ·rw[dd b2]at h;exact aht cI h
 ·rw[cG b2]at h;by_cases bn:(P.av k).d.k=5
  ·rw[dd bn]at h;rw[h.2];exact XE _ _
  ·rw[cG bn]at h;rw[h.2];exact Km cI _ _
def ahv{t:dt}{T:Nat->Nat->bW}(h:rI I t T lo){k a:Nat}(af:k<t.nn)(uS:lo<=a)(aa:a<=t.s.size)(ae:(cJ t.P k a).aA=3){n:Nat}{l:List eD}(oU:ga t.P (cJ t.P) n [(k,a)] l)(aw:l.length<=65536) :
  Spec Tryz.prog 109 [ptr t.bt,.int .i64 k,.int .i64 a] I [] λv I' M'=>I'=I/\∃ gP:a',v=gP.val/\gP.ok 3 (l.flatMap eD.cells)/\M'=gP.aQ 110:=by
 refine bU [] aT Tryz.func109 rfl rfl rfl ?_;intro B aq;have a5:=h.ok;have cr:=a5.sz;have By:=t.ahs;have wB:t.mc.ns.xs.length=t.mc.ns.n:=by show(t.ic.map _).length=t.nn;rw[dx];exact a5.nn
 have AU:∀ k p,y4 t.mc.jW (t.mc.a0+p) (cJ t.P k p):=λk p=>by rw[By];exact NZ rfl k p
 have cP:y3 t.mc.jW:=by rw[By];exact h.jW
 have aB:y6 t.mc.jW (cJ t.P):=by rw[By];exact Vx rfl cr h.na
 have ea:t.n0<t.nn->∀ M:List aE,t.aQ T∈M:=λe=>absurd e (by have:=h.n0;omega);refine cw.mk λahw jm aom=>?_;refine cx.inv (ι:=Nat×List (Nat×Nat)×a'×a') (λy=>{ cc:=[(0,.val (ptr t.bt)),(7,.val y.2.2.2.val),(8,.val y.2.2.1.val)],ck:=I,de:=y.2.2.1.aQ 243++y.2.2.2.aQ 110 }) (λy=>PN t.mc (cJ t.P) l y.1 y.2.1 y.2.2.1 y.2.2.2/\∀ x∈y.2.1,lo<=x.2) (λy=>y.1) ?_ ?_
 ·refine⟨(n,[(k,a)],⟨some ahw,1,1,iW (k,a)⟩,⟨none,0,0,[]⟩),⟨⟨⟨rfl,λe=>(by cases e),λg aB=>⟨rfl,b1 _,by unfold maxLen;exact bN rfl,rfl⟩⟩,λx ab=>?_,.inl (b1 _),[],l,by rw[By];exact oU,rfl,⟨rfl,λ_=>⟨rfl,rfl⟩,λg h=>(by cases h)⟩⟩,λx ab=>by rw[iu.1 ab];exact uS⟩,.refl,dO,.nil⟩;rw[iu.1 ab];exact⟨af,bi _,aa,ae⟩
 have cI:∀ k p,(cJ t.P k p).aA=3->p<=(cJ t.P k p).to:=λk p ae=>by have:=((NZ (P:=t.P) rfl k p).m ae).1;rwa [show t.P.a0=0 from rfl,dK]at this
 rintro⟨n,L,os,gP⟩⟨bx,PO⟩;have bY:=bx.len aB aw;obtain⟨cj,bZ,PP,k8,iT,hU,xR,tF⟩:=bx;simp only at cj bZ PP hU tF bY;have Bz:os.n=L.length:=by have:=cj.len;rw[g3 _ 2 wy,xM]at this;omega
 cases L with
 |nil=>
  refine aI.mk (λe=>?_) (λ_=>?_);·have:(0:Int)<(os.n:Int):=cv e;simp at Bz;omega
  cases hU;rw[c8]at xR;subst xR;exact⟨_,_,.sub (M1:=gP.aQ 110) (lC _ _) .refl,rfl,gP,rfl,tF,rfl⟩
 |cons y a6=>
  obtain⟨k,a⟩:=y;refine aI.mk (λ_=>?_) (λe=>?_)
  rotate_left
  ·have:¬ (0:Int)<(os.n:Int):=ct e;simp at Bz;omega
  obtain⟨s1,s2,gM,A6⟩:=bZ (k,a) (.head _);have s1:k<t.nn:=s1;have gM:a<=t.s.size:=gM;have A6:(cJ t.P k a).aA=3:=A6;have aon:os.n=a6.length+1:=by simpa using Bz
  have sw:a6.length<=65536:=by simp at bY;omega
  obtain⟨Kn,DP⟩:∃ g,os.a=some g:=by
   cases ax:os.a with
   |none=>have:=(cj.nil ax).1;omega| some g=>exact⟨g,rfl⟩
  obtain⟨dJ,c9,dT,fL⟩:=cj.cap Kn DP;rw[List.reverse_cons]at cj fL;have PQ:a'.ok ⟨os.a,a6.length,os.c,os.aS⟩ 2 (a6.reverse.flatMap iW):=by
   refine⟨by rw[g3 _ 2 wy,xM],λe=>(by simp only at e;rw[DP]at e;cases e),λdz _=>⟨dJ,by simp only;omega,dT,?_⟩⟩;simp only;have aC:((a6.reverse++[(k,a)]).flatMap iW).take (a6.length*2)=a6.reverse.flatMap iW:=by rw[jP,EU (by rw[g3 _ 2 wy,xM];exact b1 _)];exact g4 (by rw[g3 _ 2 wy,xM];exact b1 _)
   rw[<-aC,<-fL,yr];congr 1;omega
  have ahx:os.a.map (λg=>(⟨g,0,none⟩:Addr))=some ⟨Kn,0,none⟩:=by rw[DP];rfl
  have ahy:∀ {M:List aE},(∀ x∈os.aQ 243,x∈M)->bD I M ((⟨Kn,0,none⟩:Addr).add (a6.length*2)) 2 (iW (k,a)):=fun {M} bb=>by have:=a'.av (I:=I) (M:=M) (e:=243) wy (by decide) cj bb DP (i:=a6.length) (by simp);rw[ei _ rfl,dK];simpa using this
  have Dg:lo<=a:=PO (k,a) (.head _);have cf:=h.aA (k:=k) Dg gM;rcases cf with⟨t1,-,t3,t4⟩ | cf
  rotate_left
  ·exact absurd A6 cf.2
  obtain⟨k9,hX,lL⟩:=h.inv.rg k a s1 gM;have hX:(T k a).to<=t.s.size:=hX;obtain⟨c1,jX,r,ao,hx,-,ie⟩:=a5.row s1;obtain⟨x,ab,iU,W4,iA,hL,ad,bI,ahz⟩:=a5.av s1;refine aW.mk (a6.length:Int) (e0 (show(os.n:Int)-1=(a6.length:Int) by omega) (by omega)) ?_;refine a7.mk ⟨Kn,0,none⟩ a6.length ahx rfl (show a6.length<os.n by omega) ?_;refine aD.mk _ (ahy λx ab=>n9 _ ab) ?_;refine aW.mk (a6.length:Int) (e0 (show(os.n:Int)-1=(a6.length:Int) by omega) (by omega)) ?_;refine jl.mk 0 a6.length rfl rfl (bi _) (show a6.length<=os.c by omega) ?_;refine cU.draw aT rfl rfl rfl ?_;refine aD.mk _ (a5.dH (j:=4) (by decide)) ?_;refine a7.mk c1 k jX rfl s1 ?_;refine aD.mk _ (hx _) ?_;refine a7.mk r a rfl rfl (by show a<t.s.size+1;omega) ?_;refine aD.mk _ (ie _ (λe=>ea e _) a gM) ?_;refine cw.mk λpE VD VE=>?_;refine cV.mk [] _ _ _ rfl rfl (bN rfl) rfl ?_;have o8:∀ {M:List aE} j,j+1<=4->(⟨pE,.cells (T k a).cells.toArray 106 (0,0)⟩:aE)∈M->bD I M ((⟨pE,0,none⟩:Addr).add j) 1 (((T k a).cells.drop j).take 1):=λj ak bb=>dP bb ak;refine aD.mk _ (o8 0 (by decide) (.head _)) ?_;refine aI.mk (λe=>?_) (λe=>?_)
  ·have F7:(T k a).n=0:=by have:((T k a).n:Int)=0:=cv e;omega
   have a1:(cJ t.P k a).n=0:=by rw[t4,F7];rfl
   cases hU with
   | @node n _ _ parts _ iT _ ahA=>exact absurd a1 ahA
   | @zero n _ _ _ _ _ _ GX=>
    refine⟨(n,a6,⟨os.a,a6.length,os.c,os.aS⟩,gP),⟨⟨⟨PQ,λx ab=>bZ x (.tail _ ab),?_,k8,iT,GX,xR,tF⟩,λx ab=>PO x (.tail _ ab)⟩,by simp only;omega⟩,.sub (.cons _ (.refl _)) .refl,dO,.nil⟩;rcases PP with e | e
    ·left
     simp at e;simp[e]
    ·exact .inr λx ab=>e x (.tail _ ab)
  have a1:(cJ t.P k a).n≠0:=by have:¬ ((T k a).n:Int)=0:=ct e;omega
  cases hU with
  | @zero n _ _ _ _ _ kp r=>exact absurd kp a1| @node fA _ _ parts _ iT _ _ aK GX=>
  have nQ:=ahn AU wB cP (k:=k) (a:=a) s1 (bi _) gM aK;have jJ:∀ x∈a6,Bx t.mc (cJ t.P) x:=by
   rcases PP with e | e
   ·have:a6=[]:=by
     cases a6 with
     |nil=>rfl| cons _ _=>simp at e
    rw[this];exact λx ab=>by cases ab
   ·exact λx ab=>e x (.tail _ ab)
  have lk:a6.reverse.length+parts.length<=1048576:=by
   obtain⟨XF,aoo,hY,hD⟩:=PM aB (parts++a6) (λx ab=>by
    rcases dW.1 ab with ab | ab;·exact nQ x ab
    ·exact jJ x ab)
   have e:=GX.y9 hY;subst e;have ay:=congrArg List.length xR;rw[b5,b5]at ay;rw[b5]at hD;rw[xM];omega
  rw[By]at aK;have Ko:∀ x∈parts++a6,lo<=x.2:=λx ab=>by
   rcases dW.1 ab with ab | ab;·exact jD Dg (ahu rfl cI aK x ab)
   ·exact PO x (.tail _ ab)
  refine cU.draw aT rfl rfl rfl ?_;refine aD.mk _ (a5.dH (j:=3) (by decide)) ?_;refine a7.mk ad k bI rfl s1 ?_;refine aD.mk _ (ahz _) ?_;refine cw.mk λwC aop aoq=>?_;refine cV.mk [] _ _ _ rfl rfl (bN rfl) rfl ?_;have GY:∀ {M:List aE} j,j+1<=9->(⟨wC,.cells x.cells.toArray 59 (0,0)⟩:aE)∈M->bD I M ((⟨wC,0,none⟩:Addr).add j) 1 ((x.cells.drop j).take 1):=λj ak bb=>dP bb ak;refine aD.mk _ (GY 0 (by decide) (.head _)) ?_;have XG:∀ (D:List aE),(⟨wC,.cells x.cells.toArray 59 (0,0)⟩::⟨pE,.cells (T k a).cells.toArray 106 (0,0)⟩::((⟨os.a,a6.length,os.c,os.aS⟩:a').aQ 243++D)).Perm ((⟨os.a,a6.length,os.c,os.aS⟩:a').aQ 243++(⟨wC,.cells x.cells.toArray 59 (0,0)⟩::⟨pE,.cells (T k a).cells.toArray 106 (0,0)⟩::D)):=λD=>
   vU [_,_] _ _
  have XH:∀ (A D:List aE),List.Sublist (A++D) ([]++(A++(⟨wC,.cells x.cells.toArray 59 (0,0)⟩::⟨pE,.cells (T k a).cells.toArray 106 (0,0)⟩::D))++[]):=λA D=>by rw[c8,lD];exact Pf (.refl _) (.cons _ (.cons _ (.refl _)))
  have XI:∀ {hf:a'},hf.ok 2 ((a6.reverse++parts).flatMap iW)->hf.n=a6.length+parts.length:=fun {hf} j5=>by have:=j5.len;rw[g3 _ 2 wy,b5,xM]at this;omega
  refine aI.mk (λpK=>?_) (λpK=>?_)
  ·have ew:x.k=9:=cv pK;have k2:qm t.P (cJ t.P) k a=[⟨x.t,a,(T k a).to⟩]:=by unfold qm;rw[iU,gX (show x.pn.d.k=9 from ew),bg];show [(⟨x.t,a,(cJ t.P k a).to⟩:eD)]=_;rw[t3]
   rw[By,k2]at xR;have aor:gP.n=k8.length:=by have:=tF.len;rw[g3 _ 3 eD.da]at this;omega
   have vF:k8.length<=65536:=by have:=congrArg List.length xR;rw[b5]at this;omega
   refine aD.mk _ (GY 5 (by decide) (.head _)) ?_;refine aD.mk _ (o8 1 (by decide) (.tail _ (.head _))) ?_;refine aW.mk ((T k a).to:Int) (e0 rfl (by omega)) ?_;refine cw.mk λb9 fK hF=>?_;refine bp.VS aT rfl (by simp) (e:=110) rfl rfl rfl gP tF rfl (cs:=eD.cells ⟨x.t,a,(T k a).to⟩) rfl rfl rfl (⟨wC,.cells x.cells.toArray 59 (0,0)⟩::⟨pE,.cells (T k a).cells.toArray 106 (0,0)⟩::(⟨os.a,a6.length,os.c,os.aS⟩:a').aQ 243) rfl (by omega) (by show(gP.n+1)*32<=_;omega) ?_;rintro PR aos-ahB;refine aZ.mk ((⟨os.a,a6.length,os.c,os.aS⟩:a').aQ 243) (⟨wC,.cells x.cells.toArray 59 (0,0)⟩::⟨pE,.cells (T k a).cells.toArray 106 (0,0)⟩::PR.aQ 110) _ (XG _) (Xt h PQ s1 Dg gM aK lk) ?_;rintro v I' M' -⟨rfl,hf,rfl,j5,rfl⟩;have uN:=XI j5;refine jl.mk a6.length hf.n rfl rfl (by omega) (b1 _) ?_;refine aZ.mk ([]++(hf.aQ 243++(⟨wC,.cells x.cells.toArray 59 (0,0)⟩::⟨pE,.cells (T k a).cells.toArray 106 (0,0)⟩::PR.aQ 110))) [] _ (by rw[c8];exact .refl _) (XB (a9:=[]) (A:=a6.reverse) j5 (by omega) (show hf.n-a6.length=parts.length by omega) (λkP=>?_)) ?_
   ·cases ax:hf.a with
    |none=>have:=(j5.nil ax).1;omega| some aX=>have PS:=(j5.cap aX ax).2.1;refine⟨aX,rfl,?_⟩;rw[cG (by omega),xM];show some ((⟨aX,0,none⟩:Addr).add (a6.length*2))=_;rw[ei _ rfl,dK]
   rintro v I' M' -⟨rfl,rJ,vV,An,rfl⟩;refine⟨(fA,parts++a6,rJ,PR),⟨⟨⟨?_,?_,.inr ?_,k8++[⟨x.t,a,(T k a).to⟩],iT,GX,by rw[eL];exact xR,by rw[jP];simpa using ahB⟩,Ko⟩,by simp only;omega⟩,.sub (XH _ _) .refl,.cons .refl (.cons .refl (.cons (zB vV) .nil)),.nil⟩;·rw[Pe];exact An
   ·intro x ab;rcases dW.1 ab with ab | ab
    ·exact(nQ x ab).1
    ·exact bZ x (.tail _ ab)
   ·intro x ab;rcases dW.1 ab with ab | ab
    ·exact nQ x ab
    ·exact jJ x ab
  ·have ew:¬ x.k=9:=ct pK;have k2:qm t.P (cJ t.P) k a=[]:=by unfold qm;rw[iU,c0 (show ¬ x.pn.d.k=9 from ew),bd]
   rw[By,k2,lD]at xR;refine aZ.mk ((⟨os.a,a6.length,os.c,os.aS⟩:a').aQ 243) (⟨wC,.cells x.cells.toArray 59 (0,0)⟩::⟨pE,.cells (T k a).cells.toArray 106 (0,0)⟩::gP.aQ 110) _ (XG _) (Xt h PQ s1 Dg gM aK lk) ?_;rintro v I' M' -⟨rfl,hf,rfl,j5,rfl⟩;have uN:=XI j5;refine jl.mk a6.length hf.n rfl rfl (by omega) (b1 _) ?_;refine aZ.mk ([]++(hf.aQ 243++(⟨wC,.cells x.cells.toArray 59 (0,0)⟩::⟨pE,.cells (T k a).cells.toArray 106 (0,0)⟩::gP.aQ 110))) [] _ (by rw[c8];exact .refl _) (XB (a9:=[]) (A:=a6.reverse) j5 (by omega) (show hf.n-a6.length=parts.length by omega) (λkP=>?_)) ?_
   ·cases ax:hf.a with
    |none=>have:=(j5.nil ax).1;omega| some aX=>have PS:=(j5.cap aX ax).2.1;refine⟨aX,rfl,?_⟩;rw[cG (by omega),xM];show some ((⟨aX,0,none⟩:Addr).add (a6.length*2))=_;rw[ei _ rfl,dK]
   rintro v I' M' -⟨rfl,rJ,vV,An,rfl⟩;refine⟨(fA,parts++a6,rJ,gP),⟨⟨⟨?_,?_,.inr ?_,k8,iT,GX,xR,tF⟩,Ko⟩,by simp only;omega⟩,.sub (XH _ _) .refl,.cons .refl (.cons .refl (.cons (zB vV) .nil)),.nil⟩;·rw[Pe];exact An
   ·intro x ab;rcases dW.1 ab with ab | ab
    ·exact(nQ x ab).1
    ·exact bZ x (.tail _ ab)
   ·intro x ab;rcases dW.1 ab with ab | ab
    ·exact nQ x ab
    ·exact jJ x ab
def u1(o:rq)(v:Value):Value:=.agg #[.bool o.ok,.int .i64 o.to,v]
def ll:rq:=⟨false,0,[]⟩
def ahC:Spec Tryz.prog 69 [] I M λv I' M'=>v=u1 ll (.slice none 0 0)/\I'=I/\M'=M:=by refine bU [] aT Tryz.func69 rfl rfl rfl ?_;intro B aq;exact⟨_,_,.refl,rfl,rfl,rfl⟩
def ahD(to:Nat):Spec Tryz.prog 65 [.int .i64 to] I M λv I' M'=>v=u1 ⟨true,to,[]⟩ (.slice none 0 0)/\I'=I/\M'=M:=by refine bU [] aT Tryz.func65 rfl rfl rfl ?_;intro B aq;exact⟨_,_,.refl,rfl,rfl,rfl⟩
end Go.V
