/- Part 6 of what the proofs of this seat share: the executor, data in memory, walks.
-/
import Derived.Test.YtmncamccjfmbpaaGreatDoorK5
import Derived.Test.YtmncamccjfmbpaaGreatDoorK3
import Derived.Lib.SliceRun
set_option linter.all false
namespace Go.V
open Go
def n9:=@List.mem_cons_of_mem
def vC:=@List.append_of_mem
def St:=@List.filter_eq_nil_iff
def Su:=@List.reverse_reverse
def Sv:=@List.filter_eq_self
variable{xs cs AA ch us:List Value}{u mv:Value}{b:Bool}{args:Array Operand}{fT:Array Nat}{op:Op}{D bC MJ D0:bQ}{a cS:Option Addr}{G:GT}{bo:be fP}{h2 j e off t g clock cM b1 f n0:Nat}{dd:fP}{x y os p' lo hi mx:Operand}{E:Env}{P:Program}{w:World}{mC:TypeDesc}{ut:Option dH}{aI l9 c7:dH}{R α:Type}{cE gD:IntKind}{dst:Option Nat}{F dr:Fr}{call:aq->List aq->br->Option (aq×br)}{ops:List Oper}{β:Nat->Nat}{X:cV}{Q:Exit->Act->World->Prop}{Y:gP}{I dt I':aM}{M M':List aE}{row:List (Nat×Nat)}{ex:tA}{ps:List Nat}{fp body:Code}{hf:Loc}{pr:mg}
section
variable{X:cV}{G:GT}{pr:mg}{D:bQ}{m:br}{F:Fr}{ao:be aq}{C:dF}{I:aM}{M:List aE}{V:dD->Prop}{O:Prop}
def amz(c:Bool)(a b:Value):Ku c (.val a) (.val b)=.val (bif c then a else b):=by cases a<;>cases b<;>cases c<;>rfl
def aaH{o:Option Operand}{xs:List Operand}(H:jz D F ao xs)(ad:∀ y,o=some y->y∈xs){r:Option Nat}(h:CN (o.map (dn ao))=some r) :
  (o.map (dC (dq F))=none/\r=none)\/∃ k n,o.map (dC (dq F))=some (.val (.int k (Int.ofNat n)))/\r=some n:=by
 cases o with
 |none=>simp[CN]at h;exact .inl ⟨rfl,h.symm⟩
 |some y=>
  simp only[lx,CN]at h;cases ah:dn ao y with
  |none=>rw[ah]at h;cases h
  |some v=>
   rw[ah]at h;simp only at h;split at h;·rename_i n aC;cases h;obtain⟨k,rfl⟩:=Fs aC;obtain⟨u,hu,af⟩:=H.bF (ad y rfl) ah;rw[af.int]at hu;exact .inr ⟨k,n,by simp only[lx];exact congrArg some hu,rfl⟩
   ·cases h
def Sw(l:List UInt8)(lo hi:Nat):(⟨(RM l lo hi).toArray⟩:ByteArray)=(⟨l.toArray⟩:ByteArray).extract lo hi:=by apply wa;apply gY;unfold RM;rw[IH];simp[Kq,List.extract_eq_take_drop]
def amA{v:aq}{n:Nat}(h:wY v=some n)(ah:aT D v u):∃ a c,u=.slice a n c:=by
 unfold wY at h;split at h
 ·cases h;exact⟨_,_,ah.CU⟩
 ·cases h;obtain⟨a,c,rfl⟩:=ah.My;exact⟨_,_,rfl⟩
 ·cases h;obtain⟨a,_,rfl⟩:=ah.s7;exact⟨_,_,rfl⟩
 ·cases h;obtain⟨a,_,_,rfl⟩:=ah.vA;exact⟨_,_,rfl⟩
 ·cases h;exact⟨_,_,ah.Sj⟩
 ·cases h
def amB(aQ:cU X.P X.E){b:Builtin}{fT:Array TypeId}{v:aq}(h:RR X.E b fT.toList (oB ao args.toList)=some v)(H:jz D F ao args.toList)(k:∀ x,gx D x v->V x) :
  cH X (.call { callee:=.builtin b,args:=args,argTypes:=fT }) (dq F) C I M V O:=by
 unfold RR at h;split at h
 ·
  unfold ZT at h;split at h
  ·rename_i t w ax ay;obtain⟨us,aJ,a8⟩:=H.m1 (λ_ h=>h) ay;obtain⟨u,xs,ba,bR,rfl⟩:=a8.kU;have:=bR.n8;subst this;have er:kb (dq F) args.toList=some [u]:=aJ;simp only[cH,ax,er];split at h
   ·rename_i a b z e vD o4;unfold Mi at h;obtain⟨n,aC,h⟩:=cx h;have dZ:some (aq.i .i64 (.ofNat n))=some v:=h;cases dZ;obtain⟨bO,c,rfl⟩:=amA aC ba;simp only[o4];exact k _ (.val (by simp only[aT];rfl))
   ·rename_i a b z l o4;cases h;rw[ba.str];simp only[o4];refine k _ (.val ?_);simp only[aT];simp[ByteArray.size]
   ·rename_i a b z n e vD o4;cases h;cases u<;>(simp only[o4];exact k _ (.val (by simp only[aT];rfl)))
   ·cases h
  ·cases h
 ·unfold ZU at h;split at h
  ·rename_i en a cE b ay;obtain⟨us,aJ,a8⟩:=H.m1 (λ_ h=>h) ay;obtain⟨u,xs,ba,bR,rfl⟩:=a8.kU;obtain⟨w,ys,fq,k9,rfl⟩:=bR.kU;have:=k9.n8;subst this;have er:kb (dq F) args.toList=some [u,w]:=aJ;rw[ba.int,fq.int]at er;simp only[cH,er];cases h;refine k _ (.val ?_);simp only[aT];rw[kT,Mv];by_cases kN:a<=b
   ·simp[kN];omega
   ·simp[kN];omega
  ·cases h
 ·unfold ZV at h;split at h
  ·rename_i en a cE b ay;obtain⟨us,aJ,a8⟩:=H.m1 (λ_ h=>h) ay;obtain⟨u,xs,ba,bR,rfl⟩:=a8.kU;obtain⟨w,ys,fq,k9,rfl⟩:=bR.kU;have:=k9.n8;subst this;have er:kb (dq F) args.toList=some [u,w]:=aJ;rw[ba.int,fq.int]at er;simp only[cH,er];cases h;refine k _ (.val ?_);simp only[aT];rw[kT,Mv];by_cases kN:a<=b
   ·simp[kN];omega
   ·simp[kN];omega
  ·cases h
 ·unfold ZW at h;split at h
  ·rename_i t id off n c ax ay;split at h
   ·rename_i a b z e o4;cases h;obtain⟨us,aJ,a8⟩:=H.m1 (λ_ h=>h) ay;obtain⟨u,xs,ba,bR,rfl⟩:=a8.kU;have:=bR.n8;subst this;obtain⟨bO,a6,rfl⟩:=ba.s7;have er:kb (dq F) args.toList=some [_]:=aJ;simp only[cH,ax,er,o4];exact k _ (.val (by simp only[aT];rfl))
   ·cases h
  ·cases h
 ·unfold ZX at h;split at h
  ·rename_i ay;cases h;obtain⟨us,aJ,a8⟩:=H.m1 (λ_ h=>h) ay;obtain⟨u,xs,ba,bR,rfl⟩:=a8.kU;have:=bR.n8;subst this;rw[ba.CU]at aJ;have er:kb (dq F) args.toList=some [_]:=aJ;simp only[cH,er];exact k _ (.val (by simp only[aT]))
  ·rename_i id off n c ay;obtain⟨az,h⟩:=Au h;cases h;obtain⟨us,aJ,a8⟩:=H.m1 (λ_ h=>h) ay;obtain⟨u,xs,ba,bR,rfl⟩:=a8.kU;have:=bR.n8;subst this;obtain⟨bO,a6,rfl⟩:=ba.s7;have er:kb (dq F) args.toList=some [_]:=aJ;simp only[cH,er];refine⟨λe=>?_,k _ (.val ?_)⟩
   ·have:c=0:=by omega
    subst this;cases az
   ·simp only[aT];exact⟨bO,a6,rfl⟩
  ·rename_i id off e n ay;obtain⟨az,h⟩:=Au h;cases h;obtain⟨us,aJ,a8⟩:=H.m1 (λ_ h=>h) ay;obtain⟨u,xs,ba,bR,rfl⟩:=a8.kU;have:=bR.n8;subst this;obtain⟨bO,a6,bq,rfl⟩:=ba.vA;have er:kb (dq F) args.toList=some [_]:=aJ;simp only[cH,er];refine⟨λcQ=>?_,k _ (.val ?_)⟩
   ·have:n=0:=by omega
    subst this;cases az
   ·simp only[aT];exact⟨bO,a6,rfl⟩
  ·cases h
 ·cases h
def amC(aQ:cU X.P X.E){v:aq}(h:RS X.P X.E G m.t op ao=some v)(H:jz D F ao op.operands.toList)(hm:c8 (dP X G pr) D m I M)(k:∀ x,gx D x v->V x):cH X op (dq F) C I M V O:=by
 unfold RS at h;split at h
 ·
  exact k _ (H _ (by simp[Op.operands]) _ h)
 ·exact k _ (H _ (by simp[Op.operands]) _ h)
 ·
  rename_i c a b;unfold ZG at h;split at h
  ·rename_i q u w aa ab aj;cases h;have an:=H c (by simp[Op.operands]) _ aa;have a6:=H a (by simp[Op.operands]) _ ab;have ag:=H b (by simp[Op.operands]) _ aj;simp only[cH];rcases an with⟨awT,w6,an⟩ | ⟨eA,cQ,w6⟩
   ·rw[an.bool]at w6;simp only[w6];obtain⟨Sx,sf,amD⟩:=a6.dC;obtain⟨Sy,L8,cK⟩:=ag.dC;have amE:dC (dq F) a=.val Sx:=sf;have amF:dC (dq F) b=.val Sy:=L8;rw[amE,amF];refine k _ (.inl ⟨bif q then Sx else Sy,?_,?_⟩)
    ·exact amz q Sx Sy
    ·cases q
     ·exact cK
     ·exact amD
   ·cases cQ;simp only[w6];cases q
    ·exact k _ ag
    ·exact k _ a6
  ·cases h
 ·
  rename_i awU t x;unfold ZH at h;split at h
  ·rename_i b aa;cases h;have ad:=H x (by simp[Op.operands]) _ aa;simp only[cH];rcases ad with⟨u,e,hu⟩ | ⟨q,aJ,e⟩
   ·rw[hu.bool]at e;simp only[e];exact k _ (.val (by simp only[aT];rw[Sr]))
   ·cases aJ;simp only[e];exact k _ (.inr ⟨!b,by rw[Sr],rfl⟩)
  ·rename_i gl n aa;cases h;have ad:=H x (by simp[Op.operands]) _ aa;obtain⟨u,e,hu⟩:=ad.w2 (by simp);rw[hu.int]at e;simp only[cH,e];exact⟨_,rfl,k _ (.val (by simp only[aT];rw[Av]))⟩
  ·cases h
 ·
  rename_i awV t x y bo;unfold ZI at h;obtain⟨a,aa,h⟩:=cx h;obtain⟨b,ab,h⟩:=cx h;obtain⟨u,aJ,a8⟩:=H.bF (x:=x) (by simp[Op.operands]) aa;obtain⟨w,a4,ba⟩:=H.bF (x:=y) (by simp[Op.operands]) ab;have er:dC (dq F) x=.val u:=aJ;have rv:dC (dq F) y=.val w:=a4;simp only[cH,er,rv];exact amt aQ h a8 ba λr af=>k _ (.val af)
 ·
  rename_i t x;unfold ZJ at h;obtain⟨i,hi,h⟩:=cx h;obtain⟨a,aa,h⟩:=cx h;have ad:=H x (by simp[Op.operands]) _ aa;have yH:∀ q,a≠.b q:=λq e=>by subst e;cases h
  obtain⟨u,aJ,a8⟩:=ad.w2 yH;obtain⟨aU,l,vs,rfl,bm,ay,aB⟩:=w3 hm a8 h;simp only[cH,hi,aJ];exact⟨vs,bm,k _ (.val (MB aB ay))⟩
 ·
  rename_i x;unfold ZK at h;split at h;·rename_i id off aa;cases h;obtain⟨u,aJ,a8⟩:=(H x (by simp[Op.operands]) _ aa).w2 (by simp);obtain⟨a,a6,rfl⟩:=a8.ptr;simp only[cH,aJ];exact k _ (.val a8)
  ·rename_i id off aa;cases h;obtain⟨u,aJ,a8⟩:=(H x (by simp[Op.operands]) _ aa).w2 (by simp);have:=a8.q8;subst this;simp only[cH,aJ];exact k _ (.val a8)
  ·cases h
 ·
  rename_i t x i;unfold ZL at h;obtain⟨r,af,h⟩:=cx h;obtain⟨a,aa,h⟩:=cx h;obtain⟨off,hr⟩:=r;obtain⟨bb,h⟩:=Au h;obtain⟨sa,s8,sz,cR,fy,ax,aA,q0⟩:=aaG af;have ad:=H x (by simp[Op.operands]) _ aa;have yH:∀ q,a≠.b q:=λq e=>by subst e;cases h
  obtain⟨u,aJ,a8⟩:=ad.w2 yH;obtain⟨aU,rfl,au,ah⟩:=aaE h a8;have ha:Nat.beq hr.size 0=false:=bb;simp only[cH,ax,aA,q0,aJ,ha,b5];exact k _ (.val ah)
 ·
  rename_i t x i;unfold ZM at h;split at h;·rename_i off hr cs az aa;obtain⟨sa,s8,sz,cR,fy,ax,aA,q0⟩:=aaG az;obtain⟨u,aJ,a8⟩:=H.bF (x:=x) (by simp[Op.operands]) aa;obtain⟨us,fL,rfl⟩:=a8.agg;obtain⟨ab,aj⟩:=aaF h fL;have er:dC (dq F) x=.val (.agg us.toArray):=aJ;simp only[cH,ax,er,aA,q0];rw[show Nat.ble (off+hr.size) us.toArray.size=true from CF (by simpa using ab)];exact k _ (.val aj)
  ·cases h
 ·
  rename_i t x i;unfold ZN at h;obtain⟨r,af,h⟩:=cx h;obtain⟨a,aa,h⟩:=cx h;obtain⟨b,ab,h⟩:=cx h;obtain⟨j,ai,h⟩:=cx h;obtain⟨gl,rfl⟩:=Fs ai;obtain⟨u,a4,ba⟩:=H.bF (x:=i) (by simp[Op.operands]) ab;rw[ba.int]at a4;have rv:dC (dq F) i=.val (.int gl (.ofNat j)):=a4;obtain⟨IM,aI⟩:=r;rcases amw af with⟨sa,s8,sz,e,ax,he,rfl⟩ | ⟨sa,s8,sz,n,e,ax,he,rfl⟩;·have bc:Mf a j aI.size=some v:=h;obtain⟨w,aJ,a8⟩:=H.bF (x:=x) (by simp[Op.operands]) aa;obtain⟨aU,n,c,rfl,a1,ah⟩:=amv bc a8;have er:dC (dq F) x=.val (.slice (some aU) n c):=aJ;simp only[cH,ax,rv,he,er];exact⟨aU,j,rfl,rfl,a1,k _ (.val ah)⟩
  ·have bc:b0 (Nat.blt j n) (It a (Nat.mul j aI.size)) none=some v:=h;obtain⟨ag,bc⟩:=fZ bc;have ad:=H x (by simp[Op.operands]) _ aa;have yH:∀ q,a≠.b q:=λq e=>by subst e;cases bc
   obtain⟨w,aJ,a8⟩:=ad.w2 yH;obtain⟨aU,rfl,au,ah⟩:=aaE bc a8;simp only[cH,ax,rv,he,aJ];exact⟨j,rfl,bI ag,k _ (.val ah)⟩
 ·
  rename_i t x i;cases aa:dn ao x with
  |none=>rw[aa]at h;unfold Iu at h;split at h<;>first | cases h | (rename_i e _;cases e)
  |some a=>
   cases ab:dn ao i with
   |none=>rw[ab]at h;unfold Iu at h;split at h<;>first | cases h | (rename_i e;cases e)
   |some b=>rw[aa,ab]at h;obtain⟨u,aJ,a8⟩:=H.bF (x:=x) (by simp[Op.operands]) aa;obtain⟨w,a4,ba⟩:=H.bF (x:=i) (by simp[Op.operands]) ab;exact amx h a8 ba aJ a4 k
 ·
  rename_i t parts;unfold ZP at h;split at h
  ·rename_i i vs ax aB;obtain⟨z,bb,h⟩:=cx h;have ha:=bL.Fl (D:=D) bb;obtain⟨us,aJ,a8⟩:=H.parts (l:=parts.toList) (by intro y aH;simpa[Op.operands]using aH) aB;have er:tt (dq F) parts.toList=some us:=aJ
   try simp only at h
   split at h;·rename_i cR og;obtain⟨iO,h⟩:=fZ h;unfold Iv at h;obtain⟨cs,aj,aG⟩:=cx h;have dZ:some (aq.a cs)=some v:=aG;cases dZ;obtain⟨a2,bx,bZ⟩:=MC aj ha a8;simp only[cH,ax,er,og,iO,cb,bx];exact k _ (.val (.Mz bZ))
   ·rename_i n e og;obtain⟨aI,he,h⟩:=cx h;have bc:Iv (Aq (λj=>some (j*aI.size,aI.size)) z vs)=some v:=h;unfold Iv at bc;obtain⟨cs,aj,aG⟩:=cx bc;have dZ:some (aq.a cs)=some v:=aG;cases dZ;obtain⟨a2,bx,bZ⟩:=MC aj ha a8;simp only[cH,ax,er,og,he,bx];exact k _ (.val (.Mz bZ))
   ·cases h
  ·cases h
 ·
  rename_i f first captured
  unfold ZQ at h;split at h
  ·rename_i g cR cs aa ab;cases h;obtain⟨us,aJ,a8⟩:=H.m1 (l:=first.toList) (by intro y aH;simp[Op.operands];exact .inl (by simpa using aH)) aa;obtain⟨ws,a4,ba⟩:=H.m1 (l:=captured.toList) (by intro y aH;simp[Op.operands];exact .inr (by simpa using aH)) ab;have er:kb (dq F) first.toList=some us:=aJ
   have rv:kb (dq F) captured.toList=some ws:=a4;simp only[cH,er,rv];exact k _ (.val (by simp only[aT];exact⟨us,ws,a8,ba,rfl⟩))
  ·cases h
 ·
  rename_i t x lo hi;cases aa:dn ao x with
  |none=>rw[aa]at h;unfold Iw at h;split at h<;>first | cases h | (rename_i e _ _;cases e)
  |some a=>
   rw[aa]at h;cases ab:CN (lo.map (dn ao))with
   |none=>rw[ab]at h;unfold Iw at h;split at h<;>first | cases h | (rename_i e _;cases e)
   |some l=>
    rw[ab]at h;cases aj:CN (hi.map (dn ao))with
    |none=>rw[aj]at h;unfold Iw at h;split at h<;>first | cases h | (rename_i e;cases e)
    |some cW=>
     rw[aj]at h;obtain⟨u,aJ,a8⟩:=H.bF (x:=x) (by simp[Op.operands]) aa;have er:dC (dq F) x=.val u:=aJ;have e2:=aaH H (λy aH=>by subst aH;simp[Op.operands]) ab;have gF:=aaH H (λy aH=>by subst aH;simp[Op.operands]) aj;unfold Iw at h;split at h
     ·rename_i sa s8 sz e lz AB cZ ax cn dc jX;cases cn;cases dc;cases jX;obtain⟨aI,he,h⟩:=cx h;have bc:RP aI a l cW=some v:=h;unfold RP at bc;split at bc
      ·have el:lo.map (dC (dq F))=none:=by
        rcases e2 with⟨el,_⟩ | ⟨_,_,_,el⟩;·exact el
        ·cases el
       have pB:hi.map (dC (dq F))=none:=by
        rcases gF with⟨pB,_⟩ | ⟨_,_,_,pB⟩;·exact pB
        ·cases pB
       have fc:∃ q n c,u=.slice q n c/\aT D v u:=by
        split at bc;·cases bc;exact⟨_,_,_,a8.CU,a8⟩
        ·cases bc;obtain⟨q,_,rfl⟩:=a8.s7;exact⟨_,_,_,rfl,a8⟩
        ·cases bc;obtain⟨q,_,_,rfl⟩:=a8.vA;exact⟨_,_,_,rfl,a8⟩
        ·cases bc;obtain⟨q,c,rfl⟩:=a8.My;exact⟨_,_,_,rfl,a8⟩
        ·cases bc
       obtain⟨q,n,c,rfl,ah⟩:=fc;simp only[cH,ax,er,he,el,pB,uM];exact k _ (.val ah)
      ·obtain⟨q,n,c,rfl,gf,gn,ow,ah⟩:=amy bc a8;simp only[cH,ax,er,he,uM];rcases e2 with⟨el,rfl⟩ | ⟨gH,IN,el,rfl⟩<;>rcases gF with⟨pB,rfl⟩ | ⟨amG,IP,pB,rfl⟩<;>simp only[el,pB]
       ·rename_i bs;exact(bs rfl rfl).elim
       ·simp only[uK,j']at gf gn ah;refine⟨0,IP,rfl,rfl,dw _,gn,k _ (.val ?_)⟩;simp only[zw,Lx]at ah;have dd:(if c=0 then q else q.map λx=>x.add 0)=q:=by
         split;·rfl
         ·cases q with
          |none=>rfl| some q=>simp[Addr.add]
        rw[dd]at ah;exact ah
       ·simp only[uK,j']at gf gn ah;exact⟨IN,n,rfl,rfl,gf,b2 _,k _ (.val ah)⟩
       ·simp only[uK,j']at gf gn ah;exact⟨IN,IP,rfl,rfl,gf,gn,k _ (.val ah)⟩
     ·rename_i sa s8 sz str AB cZ ax cn dc jX;cases cn;cases dc;cases jX;rw[a8.str]at er;have bc:RQ str l cW=some v:=h;unfold RQ at bc;split at bc
      ·have el:lo.map (dC (dq F))=none:=by
        rcases e2 with⟨el,_⟩ | ⟨_,_,_,el⟩;·exact el
        ·cases el
       have pB:hi.map (dC (dq F))=none:=by
        rcases gF with⟨pB,_⟩ | ⟨_,_,_,pB⟩;·exact pB
        ·cases pB
       cases bc;simp only[cH,ax,er,el,pB];exact k _ (.val (by simp only[aT]))
      ·obtain⟨ag,bc⟩:=fZ bc;cases bc;rw[cz]at ag;have b1:=bI ag.1;have bT:=bI ag.2;have da:(⟨str.toArray⟩:ByteArray).size=str.length:=by simp[ByteArray.size]
       simp only[cH,ax,er];rcases e2 with⟨el,rfl⟩ | ⟨gH,IN,el,rfl⟩<;>rcases gF with⟨pB,rfl⟩ | ⟨amG,IP,pB,rfl⟩<;>simp only[el,pB]
       ·rename_i bs;exact(bs rfl rfl).elim
       ·simp only[uK,j']at b1 bT;exact⟨0,IP,rfl,rfl,dw _,by rw[da];exact bT,k _ (.val (by simp only[aT,uK,j',Sw]))⟩
       ·simp only[uK,j']at b1 bT;exact⟨IN,str.length,rfl,by rw[da];rfl,b1,by rw[da];exact b2 _,k _ (.val (by simp only[aT,uK,j',Sw,da]))⟩
       ·simp only[uK,j']at b1 bT;exact⟨IN,IP,rfl,rfl,b1,by rw[da];exact bT,k _ (.val (by simp only[aT,uK,j',Sw]))⟩
     ·cases h
 ·
  rename_i x i;unfold ZR at h;split at h;·rename_i vs aa;obtain⟨u,aJ,a8⟩:=H.bF (x:=x) (by simp[Op.operands]) aa;obtain⟨us,fL,rfl⟩:=a8.Sk;rw[Ax]at h;obtain⟨w,hw,ah⟩:=fL.get h;have er:dC (dq F) x=.val (.tuple us.toArray):=aJ;simp only[cH,er,hw];exact k _ (.val ah)
  ·cases h
 ·
  rename_i s d x;unfold ZS at h;split at h;·rename_i gl en n au ak aa;cases h;obtain⟨u,aJ,a8⟩:=H.bF (x:=x) (by simp[Op.operands]) aa;rw[a8.int]at aJ;have er:dC (dq F) x=.val (.int en n):=aJ;simp only[cH,au,ak,er];exact⟨_,rfl,k _ (.val (by simp only[aT];rw[Av]))⟩
  ·cases h
 ·
  rename_i b args fT;exact amB aQ h (by simpa[Op.operands,Call.operands]using H) k
 ·cases h
end
def bQ.set(D:bQ)(id:Nat)(a:Loc):bQ:=λi=>if i=id then some a else D i
def bQ.qf(D:bQ)(id:Nat)(a:Loc):(D.set id a) id=some a:=by simp[bQ.set]
def bQ.le_refl(D:bQ):D.le D:=λ_ _ h=>h
def bQ.le_trans(h:D.le bC)(k:bC.le MJ):D.le MJ:=λi a e=>k _ _ (h _ _ e)
def bQ.AD{id:Nat}(a:Loc)(h:D id=none):D.le (D.set id a):=λi b ag=>by
 unfold bQ.set;split
 ·rename_i e;subst e;rw[h]at ag;cases ag
 ·exact ag
def bQ.ext(D bC:bQ)(n:Nat):Prop:=∀ i,i<n->bC i=D i
def bQ.pC{n:Nat}:D.ext D n:=λ_ _=>rfl
def bQ.Ft{n:Nat}{a:Loc}:D.ext (D.set n a) n:=λi hi=>by unfold bQ.set;rw[bS (by omega)]
section
variable{Y:gP}{D bC:bQ}{m:br}{I I':aM}{M M':List aE}{R:Type}
def IJ.mono(h:IJ G I)(bz:∀ b o,I b=some o->I' b=some o):IJ G I':=λg cs av=>by obtain⟨arr,T,f,aa,ab⟩:=h g cs av;exact⟨arr,T,f,bz _ _ aa,ab⟩
def c8.le(h:c8 Y D m I M)(dk:D.ext bC m.n):D.le bC:=λi a a6=>by rw[dk i (h.j5 _ _ a6)];exact a6
def c8.step(h:c8 Y D m I M){a:Loc}(ax:∀ id e,bo.get id=some e->(id=j/\dd=e)\/(id≠j/\m.t.get id=some e))(ai:bC j=some a)(bq:D.le bC)(dk:∀ i,i≠j->bC i=D i)(amH:∀ id a,bC id=some a->id<h2)(bz:∀ b o,I b=some o->I' b=some o)(nS:∀ id e bO,id≠j->m.t.get id=some e->D id=some bO->∀ x∈M,x.num=bO.b->x∈M')
  (he:lT bC Y.E M' a dd) (Lu:∀ id e bO,id≠j->m.t.get id=some e->D id=some bO->bO.b≠a.b):c8 Y bC ⟨bo,h2⟩ I' M' where
 jb id e cM av aa:=by
  rcases ax id e av with⟨aJ,a4⟩ | ⟨bs,av⟩;·subst aJ;subst a4;rw[ai]at aa;cases aa;exact he
  ·rw[dk id bs]at aa;exact(h.jb id e cM av aa).mono bq λx ad aC=>nS id e cM bs av aa x ad aC
 inj id jc e cQ cM d' av kF aa ab ag:=by
  rcases ax id e av with⟨aJ,a4⟩ | ⟨bs,av⟩
  ·rcases ax jc cQ kF with⟨cn,dc⟩ | ⟨BC,kF⟩
   ·rw[aJ,cn]
   ·rw[dk jc BC]at ab;subst aJ;rw[ai]at aa;cases aa;exact(Lu jc cQ d' BC kF ab ag.symm).elim
  ·rw[dk id bs]at aa;rcases ax jc cQ kF with⟨cn,dc⟩ | ⟨BC,kF⟩
   ·subst cn;rw[ai]at ab;cases ab;exact(Lu id e cM bs av aa ag).elim
   ·rw[dk jc BC]at ab;exact h.inj id jc e cQ cM d' av kF aa ab ag
 j5:=amH
 q8:=h.q8.mono bz
def c8.fresh(h:c8 Y D m I M):D m.n=none:=by
 cases dk:D m.n with
 |none=>rfl| some a=>exact absurd (h.j5 _ _ dk) (Nat.lt_irrefl _)
def c8.ar(h:c8 Y D m I M){id:Nat}{e:fP}{a:Loc}(av:m.t.get id=some e)(a6:D id=some a):∃ x∈M,x.num=a.b:=by
 cases h.jb id e a av a6 with
 |cells arr az aa=>exact⟨_,aa,rfl⟩| map l c aa=>exact⟨_,aa,rfl⟩| loop L aa=>exact⟨_,aa,rfl⟩| done L aa=>exact⟨_,aa,rfl⟩
def c8.new(h:c8 Y D m I M){a:Loc}{o:Obj}(ax:∀ id e,bo.get id=some e->(id=m.n/\some dd=some e)\/(id≠m.n/\m.t.get id=some e))(aA:∀ x∈M,x.num≠a.b)
  (he:lT (D.set m.n a) Y.E (⟨a.b,o⟩::M) a dd):c8 Y (D.set m.n a) ⟨bo,m.n+1⟩ I (⟨a.b,o⟩::M):=
 h.step (λid e av=>(ax id e av).imp (λh=>⟨h.1,pA h.2⟩) λh=>h) (D.qf _ _) (bQ.AD a h.fresh) (λi hi=>by unfold bQ.set;rw[bS hi])
  (λid b ag=>by
   unfold bQ.set at ag;split at ag;·omega
   ·have:=h.j5 _ _ ag;omega)
  (λ_ _ h=>h) (λ_ _ _ _ _ _ x ad _=>n9 _ ad) he
  (λid e bO _ av CV ag=>by
   obtain⟨x,ad,aC⟩:=h.ar av CV;exact aA x ad (aC.trans ag))
def lT.new{l:List aq}{vs aS:List Value}{T c:Nat}{b:Nat}{cs:be aq}(nR:∀ j x,cs.get j=some x->(0<=j/\l[j-0]?=some x)\/((j<0\/0+l.length<=j)/\(be.nil:be aq).get j=some x))(ay:bL D l vs)
  (ae:∀ i,Y.E T=some i->(vs++aS).length=c*i.size) (an:c<=maxLen):lT D Y.E (⟨b,.cells (vs++aS).toArray T (0,0)⟩::M) ⟨b,0,c⟩ (.cells cs T l.length):=by
 refine .cells (vs++aS).toArray rfl (by simp) (by simp[ay.len]) (λi v hi av=>?_) (λi hi=>by simpa using ae i hi) an;rcases nR i v av with⟨_,aa⟩ | ⟨_,aa⟩
 ·obtain⟨x,ab,aj⟩:=ay.get (i:=i) (by simpa using aa);have a1:=(ij.1 ab).1;exact⟨x,by simp only[cX,BP];rw[rE a1];exact ab,aj⟩
 ·cases aa
def IQ{e:fP}{K:Nat->br->Option R}{r:R}(h:CO m e K=some r):∃ bo,(∀ id cQ,bo.get id=some cQ->(id=m.n/\some e=some cQ)\/(id≠m.n/\m.t.get id=some cQ))/\K m.n ⟨bo,m.n+1⟩=some r:=by unfold CO at h;rw[Sg]at h;obtain⟨bo,aa,ab⟩:=be.py (some e) m.t m.n;rw[aa]at h;exact⟨bo,ab,h⟩
def Sz{l:List aq}{T:Nat}{K:Nat->br->Option R}{r:R}(h:vy m l T K=some r):∃ m',K m.n m'=some r/\m'.n=m.n+1 /\
  ∀ {D:bQ} {I:aM} {M:List aE} {vs:List Value} (aS:List Value) {b c:Nat},c8 Y D m I M->(∀ x∈M,x.num≠b)->bL D l vs->(∀ i,Y.E T=some i->(vs++aS).length=c*i.size)->c<=maxLen ->
   c8 Y (D.set m.n ⟨b,0,c⟩) m' I (⟨b,.cells (vs++aS).toArray T (0,0)⟩::M):=by
 unfold vy at h;obtain⟨cs,aa,ab⟩:=be.yG l (.nil:be aq) 0;rw[aa]at h;obtain⟨bo,aj,aG⟩:=IQ h;refine⟨_,aG,rfl,fun {D I M vs} aS {b c} hm aA ay ae an=>?_⟩;exact hm.new (a:=⟨b,0,c⟩) aj aA (.new ab (ay.mono (bQ.AD _ hm.fresh)) ae an)
end
def amI(z:List Value)(n:Nat):rowOf z (z.length+n)=rowOf z z.length++rowOf z n:=by unfold rowOf;rw[List.range_add,cP,gh];congr 1;apply fO;intro i _;simp[Nat.add_mod_left]
def amJ(z:List Value):rowOf z z.length=z:=by
 unfold rowOf;apply lC
 ·simp
 ·intro i aa ab;simp only[fr,vl,Rh ab];simp[ab]
def SA(z:List Value):∀ n,rowOf z (n*z.length)=(List.replicate n z).flatten
 |0=>by simp[rowOf]
 |n+1=>by rw[Nat.succ_mul,DV,amI,amJ,SA z n,HM,Qt]
def aaI(place:Nat->Option (Nat×Nat)):∀ (vs:List (Nat×Value)) (cs r:List Value),ts place cs vs=some r->r.length=cs.length
 |[],cs,r,h=>by simp only[ts]at h;cases h;rfl
 |(i,v)::vs,cs,r,h=>by
  simp only[ts]at h;split at h;·cases h
  ·rename_i off size aB;cases ag:(Nat.beq v.cells.size size&&Nat.ble (off+size) cs.length)with
   |false=>rw[ag]at h;cases h| true=>rw[ag]at h;simp only[cb]at h;rw[aaI place vs _ _ h];rw[cz]at ag;have aa:=dR ag.1;have ab:=bI ag.2;simp[ck];omega
def AE(dst:Option Nat)(u:Value)(F dr:Fr):Prop:=(∀ d,dst=some d->dr d=.val u)/\∀ (D:bQ) t v,dst≠some t->gx D (F t) v->gx D (dr t) v
def AE.put(dst:Option Nat)(u:Value)(F:Fr):AE dst u F (put dst (.val u) F):=by
 constructor
 ·rintro d rfl;simp[Go.V.put,ga]
 ·intro D t v bs h;cases dst with
  |none=>exact h| some d=>have:t≠d:=λe=>bs (by rw[e]);simp only[Go.V.put,ga,hE this,b5];exact h
def AE.qv(d:Nat)(u:Value)(F:Fr):AE (some d) u F (ga (qv F d) d (.val u)):=by
 constructor
 ·rintro _⟨⟩;simp[ga]
 ·intro D t v bs h;have:t≠d:=λe=>bs (by rw[e]);simp only[ga,hE this,b5];unfold Go.V.qv;rcases h with⟨amK,e,h⟩ | ⟨q,e,h⟩
  ·rw[e];exact .inl ⟨amK,rfl,h⟩
  ·rw[h];exact .inr ⟨q,e,rfl⟩
section
variable{X:cV}{G:GT}{pr:mg}{D:bQ}{m:br}{F:Fr}{ao:be aq}{C:dF}{I:aM}{M:List aE}{K:gm}{o:Oper}
def aaJ(aQ:cU X.P X.E)(kD:∀ d,d<X.n->X.gG.contains d=true)(ak:∀ d,o.dst=some d->d<X.n){l:List aq}{T c:Nat}{mk:Nat->aq}(h:CQ X.E o ao=some (l,T,c,mk))(IR:o.dst.isSome=true)(H:jz D F ao o.op.operands.toList)
  (k:∀ b vs u dr C',I b=none->(∀ x∈M,x.num≠b)->bL D l vs->(∀ i,X.E T=some i->vs.length=c*i.size)->c<=maxLen->(∀ (bC:bQ) id,bC id=some ⟨b,0,c⟩->aT bC (mk id) u)->AE o.dst u F dr ->
   K dr C' I (⟨b,.cells vs.toArray T (0,0)⟩::M)):gZ X o F C I M K:=by
 obtain⟨dst,op,ty,pos,after,guard⟩:=o;cases dst with
 |none=>cases IR
 |some d=>
  have rK:X.gG.contains d=true:=kD d (ak d rfl);have aaK:∀ (b c:Nat) (bC:bQ) id,bC id=some ⟨b,0,c⟩->aT bC (.p id 0) (.pointer (some ⟨b,0,none⟩)):=λb c bC id mi=>by simp only[aT];exact⟨_,mi,rfl⟩
  unfold CQ at h;simp only at h H;split at h
  ·rename_i t x;unfold Z0 at h;obtain⟨i,hi,h⟩:=cx h;obtain⟨v,ah,h⟩:=cx h;obtain⟨ag,h⟩:=fZ h;cases h;obtain⟨u,aJ,a8⟩:=H.bF (x:=x) (by simp[Op.operands]) ah;have an:=a8.cells;simp only[gZ,aJ,rK,cb];refine⟨λb aa ab=>?_⟩;have:=k b u.cells.toList (.pointer (some ⟨b,0,none⟩)) _ (jF C d none) aa ab an (λgX cZ=>?_) (by decide) (aaK b 1) (.qv d _ F)
   ·simpa using this
   ·rw[hi]at cZ;cases cZ;rw[an.len,o2];exact dR ag
  ·rename_i t;unfold Z1 at h;obtain⟨i,hi,h⟩:=cx h;obtain⟨z,bb,h⟩:=cx h;cases h;simp only[gZ,hi,rK,cb];refine⟨λb aa ab=>?_⟩;exact k b i.zero (.pointer (some ⟨b,0,none⟩)) _ (jF C d none) aa ab (.Fl bb) (λgX cZ=>by rw[hi]at cZ;cases cZ;rw[(aQ _ _ hi).len,o2]) (by decide) (aaK b 1) (.qv d _ F)
  ·rename_i t len parts;unfold Z2 at h;split at h
   ·rename_i sa s8 sz e vs ax aB;obtain⟨aI,he,h⟩:=cx h;obtain⟨z,bb,h⟩:=cx h;obtain⟨us,aJ,a8⟩:=H.parts (l:=parts.toList) (by intro y aH;simpa[Op.operands]using aH) aB;simp only[gZ,ax,aJ,he];have yd:=(aQ _ _ he).len;cases ag:(Nat.ble (len*aI.size) 16777216&&Nat.blt 0 (len*aI.size))with
    |true=>
     have jG:(Nat.ble (Nat.mul len aI.size) 16777216&&Nat.blt 0 (Nat.mul len aI.size))=true:=ag;rw[kT,jG]at h;simp only[cb]at h |-;obtain⟨cs,aj,aG⟩:=cx h;have dZ:some (cs,e,len,λid=>aq.sl id 0 len len)=some (l,T,c,mk):=aG;cases dZ;have Cs:bL D (CP c z) (rowOf aI.zero (c*aI.size)):=by rw[<-yd,SA];exact(bL.Fl bb).Hx c
     obtain⟨a2,bx,bZ⟩:=MC aj Cs a8;rw[bx];refine⟨λb aa ab=>?_⟩;have c1:a2.length=c*aI.size:=by rw[aaI _ _ _ _ bx];simp[rowOf]
     rw[cz]at ag;have hb:=bI ag.1;have gS:0<c*aI.size:=bI ag.2;exact k b a2 (.slice (some ⟨b,0,none⟩) c c) _ C aa ab bZ (λgX cZ=>by rw[he]at cZ;cases cZ;exact c1)
      (by
       have ek:0<aI.size:=Nat.pos_of_mul_pos_left gS;have:c<=c*aI.size:=Nat.le_mul_of_pos_right _ ek;simp only[maxLen];omega)
      (λbC id mi=>by simp only[aT];exact⟨_,mi,rfl⟩) (.put _ _ F)
    |false=>
     have jG:(Nat.ble (Nat.mul len aI.size) 16777216&&Nat.blt 0 (Nat.mul len aI.size))=false:=ag;rw[kT,jG]at h;simp only[b5]at h |-;obtain⟨an,h⟩:=fZ h;cases h;rw[cz]at an;have aj:=dR an.1;subst aj;have aG:vs=[]:=by simpa using an.2
     subst aG;cases a8;simp only;refine⟨λb aa ab=>?_⟩;exact k b [] (.slice (some ⟨b,0,none⟩) 0 0) _ C aa ab .nil (λgX cZ=>by simp) (by decide) (λbC id mi=>by simp only[aT];exact⟨_,mi,rfl⟩) (.put _ _ F)
   ·cases h
  ·rename_i t eB c';unfold Z3 at h;split at h
   ·rename_i sa s8 sz e hl awW ax aa ab;obtain⟨aI,he,h⟩:=cx h;obtain⟨n,aC,h⟩:=cx h;obtain⟨q,aN,h⟩:=cx h;obtain⟨z,bb,h⟩:=cx h;obtain⟨ag,h⟩:=fZ h;cases h;obtain⟨en,rfl⟩:=Fs aC;obtain⟨cE,rfl⟩:=Fs aN;obtain⟨w7,aJ,a8⟩:=H.bF (x:=eB) (by simp[Op.operands]) aa;obtain⟨si,a4,ba⟩:=H.bF (x:=c') (by simp[Op.operands]) ab;rw[a8.int]at aJ;rw[ba.int]at a4;simp only[cz]at ag;simp only[gZ,ax,aJ,a4,he];refine⟨n,c,rfl,rfl,bI ag.1,bI ag.2.1,bI ag.2.2,⟨λb aj aG=>?_⟩⟩;have yd:=(aQ _ _ he).len;have Cs:bL D (CP c z) (rowOf aI.zero (c*aI.size)):=by rw[<-yd,SA];exact(bL.Fl bb).Hx c
    exact k b _ (.slice (some ⟨b,0,none⟩) n c) _ C aj aG Cs (λgX cZ=>by rw[he]at cZ;cases cZ;simp[rowOf]) (bI ag.2.2) (λbC id mi=>by simp only[aT];exact⟨_,mi,rfl⟩) (.put _ _ F)
   ·cases h
  ·cases h
end
def aaL{vs:List Value}{i:Nat}(h:off+vs.length<=cs.length):(ck cs off vs)[i]?=if off<=i/\i<off+vs.length then vs[i-off]? else cs[i]?:=by
 unfold ck;by_cases aa:i<off
 ·rw[bS (by omega),rE (by simp;omega),rE (by simp;omega),lu,bN aa]
 ·by_cases ab:i<off+vs.length
  ·rw[bN ⟨by omega,ab⟩,rE (by simp;omega),nj (by simp;omega)];simp;congr 1;omega
  ·rw[bS (by omega),nj (by simp;omega),od];congr 1;simp;omega
def SB{vs:List Value}(h:off+vs.length<=cs.length):(ck cs off vs).length=cs.length:=by simp[ck];omega
section
variable{Y:gP}{D:bQ}{m:br}{I:aM}{M:List aE}{R:Type}
def SC{x:aq}{l:List aq}{K:br->Option R}{r:R}(h:yE m x l K=some r):∃ m',K m'=some r/\m'.n=m.n/\(∀ id,m'.t.get id≠none->m.t.get id≠none\/True) /\
  ∀ {D:bQ} {I:aM} {M:List aE} {u:Value} {vs:List Value},c8 Y D m I M->aT D x u->bL D l vs ->
   ∃ (g off:Nat) (a9 post:List aE) (arr:Array Value) (T:Nat),u=.pointer (some ⟨g,off,none⟩)/\M=a9++⟨g,.cells arr T (0,0)⟩::post/\off+vs.length<=arr.size/\gA vs=true /\ (∃ id e a,m.t.get id=some e/\D id=some a/\a.b=g) /\
    c8 Y D m' I (a9++⟨g,.cells (ck arr.toList off vs).toArray T (0,0)⟩::post):=by
 unfold yE at h;split at h
 ·rename_i id off;split at h
  ·rename_i cs T fQ av;cases ag:(Nat.ble (Nat.add off l.length) fQ&&l.all aq.one)with
   |false=>rw[ag]at h;cases h
   |true=>
    rw[ag]at h;simp only[cb]at h;rw[cz]at ag;have AF:off+l.length<=fQ:=bI ag.1;obtain⟨cs',aa,ab⟩:=be.yG l cs off;rw[aa]at h;obtain⟨bo,aj,aG⟩:=be.py (some (fP.cells cs' T fQ)) m.t id;rw[aj]at h;refine⟨_,h,rfl,λ_ _=>.inr trivial,fun {D I M u vs} hm ad ay=>?_⟩;obtain⟨a,a6,rfl⟩:=ad.ptr;have he:=hm.jb _ _ _ av a6;obtain⟨arr,aK,a',da,an,ae,iz⟩:=he;have c1:=ay.len;obtain⟨a9,post,dO⟩:=vC a';have jH:off+vs.length<=arr.size:=by omega
    refine⟨a.b,off,a9,post,arr,T,by rw[aK,cX],dO,jH,ay.one ag.2,⟨id,_,a,av,a6,rfl⟩,?_⟩;have fg:∀ x∈M,x.num≠a.b->x∈a9++⟨a.b,.cells (ck arr.toList off vs).toArray T (0,0)⟩::post:=λx ad aC=>by
     rw[dO]at ad;rcases cF.1 ad with ad | ad;·exact cF.2 (.inl ad)
     ·rcases eg.1 ad with rfl | ad
      ·exact(aC rfl).elim
      ·exact cF.2 (.inr (n9 _ ad))
    refine hm.step (λi e hi=>(aG i e hi).imp (λq=>⟨q.1,pA q.2⟩) λq=>q) a6 (bQ.le_refl D) (λ_ _=>rfl) hm.j5 (λ_ _ h=>h) (λi e bO bs hi po x ad aC=>fg x ad ?_) ?_ ?_;·rw[aC];exact λag=>bs (hm.inj _ _ _ _ _ _ hi av po a6 ag)
    ·have AG:(ck arr.toList off vs).length=arr.size:=by rw[SB (by simpa using jH)];simp
     refine .cells (ck arr.toList off vs).toArray aK (by simp) (by simp[AG];exact da) (λi v hi vE=>?_) (λi hi=>by simp[AG];exact ae i hi) iz;rw[aK,cX];simp only[BP];rw[aaL (by simpa using jH)];rcases ab i v vE with⟨a8,ba⟩ | ⟨a8,ba⟩;·have a1:=(ij.1 ba).1;rw[bN ⟨a8,by omega⟩];exact ay.get ba
     ·rw[bS (by omega)];have:=an i v hi ba;rw[aK,cX]at this;simpa using this
    ·intro i e bO bs hi po ag;exact bs (hm.inj _ _ _ _ _ _ hi av po a6 ag)
  ·cases h
 ·cases h
def aaM:∀ {l:List aq} {aZ bJ:List UInt8} {vs:List Value},Iy l aZ=some bJ->bL D l vs->∃ cs,bJ=aZ.reverse++cs/\vs=cs.map (λb=>.int .u8 b.toNat)
 |[],aZ,bJ,vs,h,ay=>by simp only[Iy]at h;cases h;exact⟨[],(ed _).symm,ay.n8⟩
 |v::l,aZ,bJ,vs,h,ay=>by
  unfold Iy at h;split at h;·rename_i e;cases e
  ·rename_i EP n eB e;cases e;cases ag:Nat.ble n 255 with
   |false=>rw[ag]at h;cases h| true=>rw[ag]at h;simp only[cb]at h;obtain⟨x,xs,aa,ab,rfl⟩:=ay.kU;have aC:=bI ag;obtain⟨cs,rfl,rfl⟩:=aaM h ab;refine⟨UInt8.ofNat n::cs,by simp,?_⟩;rw[aa.int];simp only[bX,ya,and_true,Value.int.injEq,true_and];rw[UInt8.toNat_ofNat_of_lt' (show n<256 by omega)];rfl
  ·cases h
def aaN{l:List aq}{bJ:List UInt8}{vs:List Value}(h:RZ l=some bJ)(ay:bL D l vs):vs=bJ.map (λb=>.int .u8 b.toNat):=by obtain⟨cs,rfl,rfl⟩:=aaM h ay;rfl
inductive AH:TypeDesc->aq->Prop
 |int{k n}:AH (.int k) (.i k n)| str {l}:AH .string (.s l)
def aaO(aQ:cU P E){k:Nat}{y:aq}(h:Ml (E k) y=true):∃ d,P.underlying k=some d/\AH d y:=by
 unfold Ml at h;split at h
 ·rename_i gl e9 n ae;have:=IntKind.D2 h;subst this;obtain⟨d,hu,ak⟩:=(aQ _ _ ae).fx;refine⟨d,hu,?_⟩;have:d=.int gl:=by cases d<;>simp_all[fw]
  subst this;exact .int
 ·rename_i l ae;obtain⟨d,hu,ak⟩:=(aQ _ _ ae).fx;refine⟨d,hu,?_⟩;have:d=.string:=by cases d<;>simp_all[fw]
  subst this;exact .str
 ·cases h
def AH.isKey{d:TypeDesc}{y:aq}(h:AH d y)(aH:aT D y u):MapKept.IsKey d u:=by
 cases h with
 |int=>rw[aH.int];rfl| str=>rw[aH.str];trivial
def aaP(a b:ByteArray):(a == b)=decide (a=b):=by rw[sC,MapKept.bytes_beq];simp
def Fu{d:TypeDesc}{y x:aq}{w:Value}{r:Bool}(h:AH d y)(aH:aT D y u)(ad:aT D x w)(he:E8 y x=some r):Instr.sameNow d u w=some r:=by
 cases h with
 | @int k n=>
  rw[aH.int];unfold E8 at he;split at he;·rename_i e;cases e
  ·rename_i en a cE b e;cases e;obtain⟨aa,ab⟩:=fZ he;have:=IntKind.D2 aa;subst this;cases ab;rw[ad.int];simp only[Instr.sameNow,pO,CT];congr 1
  ·rename_i e;cases e
  ·cases he
 | @str l=>
  rw[aH.str];unfold E8 at he;split at he;·rename_i e;cases e
  ·rename_i e;cases e
  ·rename_i a b e;cases e;cases he;rw[ad.str];simp only[Instr.sameNow];rw[aaP,MD,Fk]
  ·cases he
def aaQ{d:TypeDesc}{y:aq}{u:Value}(h:AH d y)(aH:aT D y u):∀ {es:List (aq×aq)} {l:List MapEntry} {r:Option aq} (i:Nat),q' D es l->Iz y es=some r ->
  match r with
  |none=>Instr.findNow d u l i=some none| some v=>∃ j w,Instr.findNow d u l i=some (some (j,w))/\aT D v w
 |[],_,r,i,.nil,ay=>by simp only[Iz]at ay;cases ay;rfl
 |(x,v)::es,_,r,i,.cons (e:=e) (l:=l) ae ah t,ay=>by
  simp only[Iz]at ay;split at ay;·rename_i he;cases ay;refine⟨i,e.val,?_,ah⟩;simp only[Instr.findNow,Fu h aH ae he]
  ·rename_i he;have aF:=aaQ h aH (i+1) t ay;simp only[Instr.findNow,Fu h aH ae he];exact aF
  ·cases ay
def aaR{d:TypeDesc}{y v:aq}{u w:Value}(h:AH d y)(aH:aT D y u)(ah:aT D v w):∀ {es vF:List (aq×aq)} {l:List MapEntry} (i:Nat),q' D es l->IA y v es=some vF -> (Instr.findNow d u l i=some none/\∀ b,q' D vF (l++[{ key:=u,val:=w,born:=b }])) \/ ∃ j e,Instr.findNow d u l i=some (some (i+j,e.val))/\l[j]?=some e/\Instr.sameNow d u e.key=some true/\q' D vF (l.modify j λe=>{ e with key:=u,val:=w })
 |[],vF,_,i,.nil,ay=>by simp only[IA]at ay;cases ay;exact .inl ⟨rfl,λb=>.cons aH ah .nil⟩
 |(x,vD)::es,vF,_,i,.cons (e:=e) (l:=l) ae kd t,ay=>by
  simp only[IA]at ay;split at ay
  ·rename_i he;cases ay;refine .inr ⟨0,e,?_,rfl,Fu h aH ae he,?_⟩
   ·simp only[Instr.findNow,Fu h aH ae he,qt]
   ·simp only[List.modify_zero_cons];exact .cons aH ah t
  ·rename_i he;split at ay
   ·rename_i r af;cases ay;rcases aaR h aH ah (i+1) t af with⟨aa,ab⟩ | ⟨j,cQ,aa,ab,aj,aG⟩
    ·refine .inl ⟨?_,λb=>.cons ae kd (ab b)⟩;simp only[Instr.findNow,Fu h aH ae he];exact aa
    ·refine .inr ⟨j+1,cQ,?_,by simpa using ab,aj,?_⟩
     ·simp only[Instr.findNow,Fu h aH ae he];rw[aa];congr 3;omega
     ·simp only[List.modify_succ_cons];exact .cons ae kd aG
   ·cases ay
  ·cases ay
end
section
variable{P:Program}{w:World}
def amL{k:Nat}(ax:P.underlying t=some (.map k e)){d:TypeDesc}(ae:P.underlying k=some d)(w8:MapKept.IsKey d u){l:List MapEntry}(av:w.heap[g]?=some (.map l.toArray clock))
  {q:Option (Nat×Value)} (aA:Instr.findNow d u l 0=some q) {inf:TypeInfo} {z:Value} (hi:P.info? e=some inf) (bb:inf.zero=some z) (ok:Bool) :
  (Instr.lookup t (.map (some g)) u ok).run P w=.ok (bif ok then .tuple #[(q.map (·.2)).getD z,.bool q.isSome]else(q.map (·.2)).getD z) w:=by
 have an:(Instr.checkKey l.toArray.isEmpty 10000 k u).run P w=.ok () w:=Ep ae w8 _ 9999;have vk:(Instr.findKey k u l).run P w=.ok q w:=Er ae aA;have MK:(zeroValue e).run P w=.ok z w:=by simp[zeroValue,typeInfo,hi,bb]
 unfold Instr.lookup;simp only[ct,run_underlying ax,bY,En av,c3,an,vk];cases q with
 |none=>cases ok<;>simp[MK]
 |some p=>cases ok<;>simp
def amM{k:Nat}(ax:P.underlying t=some (.map k e)){d:TypeDesc}(ae:P.underlying k=some d){v:Value}(w8:MapKept.IsKey d u){l:List MapEntry}(av:w.heap[g]?=some (.map l.toArray clock))
  (aA:Instr.findNow d u l 0=some none):(Instr.mapUpdate t (.map (some g)) u v).run P w=.ok () { w with heap:=w.heap.setIfInBounds g (.map (l++[({ key:=u,val:=v,born:=clock }:MapEntry)]).toArray (clock+1)) }:=by
 have an:(Instr.checkKey false 10000 k u).run P w=.ok () w:=Ep ae w8 _ 9999;have vk:(Instr.findKey k u l).run P w=.ok none w:=Er ae aA;unfold Instr.mapUpdate;simp only[ct,run_underlying ax,bY,En av,an,vk,PQ _ av];congr 3;simp
def amN{k:Nat}(ax:P.underlying t=some (.map k e)){d:TypeDesc}(ae:P.underlying k=some d){v:Value}(w8:MapKept.IsKey d u){l:List MapEntry}(av:w.heap[g]?=some (.map l.toArray clock))
 {cQ:MapEntry} (aA:Instr.findNow d u l 0=some (some (j,cQ.val))) (ai:l[j]?=some cQ) (au:cQ.key=u) :
  (Instr.mapUpdate t (.map (some g)) u v).run P w=.ok () { w with heap:=w.heap.setIfInBounds g (.map (l.modify j λe=>{ e with key:=u,val:=v }).toArray clock) }:=by
 have an:(Instr.checkKey false 10000 k u).run P w=.ok () w:=Ep ae w8 _ 9999;have vk:(Instr.findKey k u l).run P w=.ok (some (j,cQ.val)) w:=Er ae aA;have dS:(Instr.keyThatStays u u).run P w=.ok u w:=MapKept.run_keyThatStays w8;unfold Instr.mapUpdate;simp only[ct,run_underlying ax,bY,En av,an,vk];simp only[BP,ai,lx,j',au,dS,bY,PQ _ av];congr 3;show Obj.map _ _=Obj.map _ _;congr 1;apply gY;simp
end
section
variable{X:cV}{G:GT}{pr:mg}{D:bQ}{m m':br}{F:Fr}{ao:be aq}{C:dF}{I:aM}{M:List aE}{K:gm}{o:Oper}{v:aq}
def sj(X:cV)(G:GT)(pr:mg)(D:bQ)(m:br)(I:aM)(M:List aE)(v:aq)(m':br)(dst:Option Nat)(F:Fr)(C:dF)(K:gm):Prop:=
 ∀ bC u M',D.ext bC m.n->aT bC v u->c8 (dP X G pr) bC m' I M'->K (put dst (.val u) F) C I M'
def amO(aK:o.op=.store t x y)(h:bn o.dst (Mj (X.E t) m (dn ao x) (dn ao y)) (λ_=>none)=some (v,m'))(H:jz D F ao o.op.operands.toList)(hm:c8 (dP X G pr) D m I M)
  (k:sj X G pr D m I M v m' o.dst F C K):gZ X o F C I M K:=by
 obtain⟨dst,op,ty,pos,after,guard⟩:=o;simp only at aK;subst aK;cases dst with
 |some d=>cases h
 |none=>
  have aa:Mj (X.E t) m (dn ao x) (dn ao y)=some (v,m'):=h;unfold Mj at aa;obtain⟨i,hi,aa⟩:=cx aa;obtain⟨a,ad,aa⟩:=cx aa;obtain⟨b,aH,aa⟩:=cx aa;obtain⟨ag,aa⟩:=fZ aa;obtain⟨m2,ab,-,-,aj⟩:=SC (Y:=dP X G pr) aa;cases ab;simp only at H;have CW:=H x (by simp[Op.operands]) _ ad;have yH:∀ q,a≠.b q:=λq e=>by subst e;cases aa
  obtain⟨u,aJ,a8⟩:=CW.w2 yH;obtain⟨w,a4,ba⟩:=H.bF (x:=y) (by simp[Op.operands]) aH;obtain⟨g,off,a9,post,arr,T,rfl,a',jH,oW,⟨id,e,hf,mi,Ex,av⟩,mP⟩:=aj hm a8 ba.cells;simp only[gZ,hi,a4,aJ];have da:Nat.beq w.cells.size i.size=true:=by have:=ba.cells.len;rw[zu]at this;rw[this];exact ag
  rw[da];simp only[cb];refine⟨a9,post,arr,T,a',rfl,jH,oW,?_⟩;exact k D (.tuple #[]) _ bQ.pC (by simp only[aT];exact⟨[],.nil,rfl⟩) mP
def aaS(ak:∀ d,o.dst=some d->d<X.n)(bH:∀ c,o.op≠.defer c)
  (h:∀ (β:Nat->Nat) (a:Act) (w:World),cN X β a w F C I M->∃ u w' I' M',(execOp a.eval o).run X.P w=.ok (.value u) w'/\cN X β a w' F C I' M'/\K (put o.dst (.val u) F) C I' M'):bB X o F C I M K:=by
 refine⟨λa w Q ⟨β,aV⟩=>?_⟩;obtain⟨u,w',I',M',aa,ab,aj⟩:=h β a w aV;exact jg bH aa ⟨_,_,_,_,⟨β,ab.put (x:=.val u) ak rfl⟩,aj⟩
def amP(ak:o.dst=none)(bH:∀ c,o.op≠.defer c)
  (h:∀ (β:Nat->Nat) (a:Act) (w:World),cN X β a w F C I M->∃ w' I' M',(execOp a.eval o).run X.P w=.ok .skip w'/\cN X β a w' F C I' M'/\K F C I' M'):bB X o F C I M K:=by
 refine⟨λa w Q ⟨β,aV⟩=>?_⟩;obtain⟨w',I',M',aa,ab,aj⟩:=h β a w aV;refine DZ bH aa ⟨_,_,_,_,⟨β,?_⟩,aj⟩;rw[ak];exact ab
def aaT(aQ:cU X.P X.E)(ak:∀ d,o.dst=some d->d<X.n){r:Option Operand}(aK:o.op=.makeMap t r)(h:Mk (X.E t) m=some (v,m'))(af:∀ x,r=some x->∃ k n,bF F x=.val (.int k n))(hm:c8 (dP X G pr) D m I M)
  (k:sj X G pr D m I M v m' o.dst F C K):bB X o F C I M K:=by
 unfold Mk at h;split at h
 ·rename_i sa s8 sz gl e ax;obtain⟨d,fM,fu⟩:=(aQ _ _ ax).fx;have aa:d=.map gl e:=by cases d<;>simp_all[fw]
  subst aa;obtain⟨bo,ab,aj⟩:=IQ h;cases aj;refine aaS ak (by rw[aK];simp) fun β a w aV=>?_;refine⟨.map (some w.heap.size),w.alloc (.map #[] 0),I,⟨w.heap.size,.map #[] 0⟩::M,?_,aV.oe _,?_⟩
  ·unfold execOp;cases r with
   |none=>simp[aK,Instr.makeMap]| some x=>obtain⟨en,kK,ad⟩:=af x rfl;have Qm:=df aV.ao ad;simp[aK,Qm,Instr.makeMap,run_underlying fM,asInt,oU]
  ·have aA:∀ x∈M,x.num≠w.heap.size:=aV.holds.rr;refine k _ _ _ bQ.Ft (by simp only[aT];exact⟨_,bQ.qf _ _ ⟨w.heap.size,0,0⟩,rfl⟩) (hm.new (a:=⟨w.heap.size,0,0⟩) ab aA ?_);exact .map [] 0 (by simp) .nil
 ·cases h
def lT.aaU{D:bQ}{M:List aE}{a:Loc}{es:List (aq×aq)}(h:lT D E M a (.map es)):∃ l clock,(⟨a.b,.map l.toArray clock⟩:aE)∈M/\q' D es l:=by
 cases h with
 |map l clock aa ab=>exact⟨l,clock,aa,ab⟩
def aT.map'{id:Nat}(h:aT D (.m id) u):∃ a,D id=some a/\u=.map (some a.b):=by simpa only[aT]using h
def amQ(aQ:cU X.P X.E)(ak:∀ d,o.dst=some d->d<X.n){ok:Bool}(aK:o.op=.lookup t x y ok)(h:R0 X.P X.E t m (dn ao x) (dn ao y) ok=some (v,m'))(H:jz D F ao o.op.operands.toList)
  (hm:c8 (dP X G pr) D m I M) (k:sj X G pr D m I M v m' o.dst F C K):bB X o F C I M K:=by
 unfold R0 at h;split at h
 ·rename_i sa s8 sz gl e id amR ax aa ab;obtain⟨w8,h⟩:=fZ h;split at h
  ·rename_i es av;obtain⟨r,af,h⟩:=cx h;obtain⟨inf,hi,h⟩:=cx h;obtain⟨z,bb,h⟩:=cx h;obtain⟨tz,BJ,h⟩:=cx h;cases h;obtain⟨d,fM,fu⟩:=(aQ _ _ ax).fx;have fD:d=.map gl e:=by cases d<;>simp_all[fw]
   subst fD;obtain⟨di,sY,w9⟩:=aaO aQ w8;rw[aK]at H;obtain⟨w7,aJ,a8⟩:=H.bF (x:=x) (by simp[Op.operands]) aa;obtain⟨si,a4,ba⟩:=H.bF (x:=y) (by simp[Op.operands]) ab;obtain⟨a,a6,rfl⟩:=a8.map';have he:=hm.jb _ _ _ av a6;obtain⟨l,clock,a',SD⟩:=he.aaU;have kG:=aaQ w9 ba 0 SD af;have MK:aT D tz z:=.of BJ;have fin:∀ {q:Option (Nat×Value)},Instr.findNow di si l 0=some q->(r=none/\q=none\/∃ IS j w,r=some IS/\q=some (j,w)/\aT D IS w)->bB X o F C I M K:=fun {q} aA aN=>by
    refine aaS ak (by rw[aK];simp) fun β ac w aV=>?_;have fj:=amL (P:=X.P) (w:=w) fM sY (w9.isKey ba) (aV.holds.m _ a') aA hi bb ok;have ex:=df aV.ao aJ;have o7:=df aV.ao a4;refine⟨bif ok then .tuple #[(q.map (·.2)).getD z,.bool q.isSome]else(q.map (·.2)).getD z,w,I,M,?_,aV,k D _ M bQ.pC ?_ hm⟩;·unfold execOp;simp only[aK,ex,o7,ct,fj,bY,c3]
    ·unfold Z4;rcases aN with⟨rfl,rfl⟩ | ⟨IS,j,w',rfl,rfl,ah⟩
     ·cases ok
      ·exact MK
      ·exact .MA (.cons MK (.cons (by simp only[aT];rfl) .nil))
     ·cases ok
      ·exact ah
      ·exact .MA (.cons ah (.cons (by simp only[aT];rfl) .nil))
   cases r with
   |none=>exact fin kG (.inl ⟨rfl,rfl⟩)| some IS=>obtain⟨j,w,aA,ah⟩:=kG;exact fin aA (.inr ⟨IS,j,w,rfl,rfl,ah⟩)
  ·cases h
 ·cases h
def aaV(aQ:cU X.P X.E){z:Operand}(aK:o.op=.mapUpdate t x y z\/o.op=.insert t x y z)(h:bn o.dst (IB X.E t m (dn ao x) (dn ao y) (dn ao z)) (λ_=>none)=some (v,m'))(H:jz D F ao o.op.operands.toList)
  (hm:c8 (dP X G pr) D m I M) (k:sj X G pr D m I M v m' o.dst F C K):bB X o F C I M K:=by
 cases IR:o.dst with
 |some d=>rw[IR]at h;cases h
 |none=>
  rw[IR]at h k;have az:IB X.E t m (dn ao x) (dn ao y) (dn ao z)=some (v,m'):=h;have wy:∀ q,q=x\/q=y\/q=z->q∈o.op.operands.toList:=λq aN=>by
   rcases aK with aK | aK<;>rw[aK]<;>simp[Op.operands]<;>exact aN
  unfold IB at az;split at az
  ·rename_i sa s8 sz gl e id amR tz ax aa ab aj;obtain⟨w8,az⟩:=fZ az;split at az
   ·rename_i es av;obtain⟨vF,kI,az⟩:=cx az;obtain⟨bo,aG,bx⟩:=be.py (some (fP.map vF)) m.t id;have iG:(m.t.n7 (some (fP.map vF)) id λt=>some (aq.t [],(⟨t,m.n⟩:br)))=some (v,m'):=az;rw[aG]at iG;cases iG;obtain⟨d,fM,fu⟩:=(aQ _ _ ax).fx;have fD:d=.map gl e:=by cases d<;>simp_all[fw]
    subst fD;obtain⟨di,sY,w9⟩:=aaO aQ w8;obtain⟨w7,aJ,a8⟩:=H.bF (x:=x) (wy x (.inl rfl)) aa;obtain⟨si,a4,ba⟩:=H.bF (x:=y) (wy y (.inr (.inl rfl))) ab;obtain⟨AI,cn,bR⟩:=H.bF (x:=z) (wy z (.inr (.inr rfl))) aj;obtain⟨a,a6,rfl⟩:=a8.map';have he:=hm.jb _ _ _ av a6;obtain⟨l,clock,a',SD⟩:=he.aaU;have fin:∀ (eB:List MapEntry) (CX:Nat),q' D vF eB->(∀ w:World,w.heap[a.b]?=some (.map l.toArray clock)->(Instr.mapUpdate t (.map (some a.b)) si AI).run X.P w=.ok () { w with heap:=w.heap.setIfInBounds a.b (.map eB.toArray CX) }) ->
      bB X o F C I M K:=λeB CX oh fj=>by
     obtain⟨a9,post,dO⟩:=vC a';have mQ:M.Perm (⟨a.b,.map l.toArray clock⟩::(a9++post)):=by rw[dO];exact mN
     refine amP IR (by rcases aK with aK | aK<;>rw[aK]<;>simp) fun β ac w iH=>?_;have aV:cN X β ac w F C I (⟨a.b,.map l.toArray clock⟩::(a9++post)):=iH.h5 (.perm mQ .refl);have ur:=iH.holds.m _ a';have ex:=df aV.ao aJ;have o7:=df aV.ao a4;have Qn:=df aV.ao cn;have g2:=MapKept.heap_set (o':=Obj.map eB.toArray CX) ur;refine⟨_,I,⟨a.b,.map eB.toArray CX⟩::(a9++post),?_,aV.swap (w':={ w with heap:=w.heap.setIfInBounds a.b (.map eB.toArray CX) }) (by simp) g2.1 g2.2 ⟨rfl,rfl⟩,?_⟩
     ·unfold execOp;rcases aK with aK | aK<;>simp only[aK,ex,o7,Qn,ct,fj w ur,bY,c3]
     ·have nW:∀ q∈M,q.num≠a.b->q∈(⟨a.b,.map eB.toArray CX⟩:aE)::(a9++post):=λq aN aC=>by
       rcases eg.1 (mQ.mem_iff.1 aN)with rfl | aN;·exact(aC rfl).elim
       ·exact n9 _ aN
      refine k D (.tuple #[]) _ bQ.pC (by simp only[aT];exact⟨[],.nil,rfl⟩) ?_;refine hm.step (λi e hi=>(bx i e hi).imp (λq=>⟨q.1,pA q.2⟩) λq=>q) a6 (bQ.le_refl D) (λ_ _=>rfl) hm.j5 (λ_ _ h=>h) (λi e bO bs hi po q aN aC=>nW q aN ?_) (.map eB CX (by simp) oh) ?_;·rw[aC];exact λag=>bs (hm.inj _ _ _ _ _ _ hi av po a6 ag)
      ·exact λi e bO bs hi po ag=>bs (hm.inj _ _ _ _ _ _ hi av po a6 ag)
    rcases aaR w9 ba bR 0 SD kI with⟨aA,fg⟩ | ⟨j,cQ,aA,ai,au,LO⟩;·exact fin _ (clock+1) (fg clock) λw ur=>amM fM sY (w9.isKey ba) ur aA
    ·rw[cX]at aA;have yg:cQ.key=si:=by
      cases w9 with
      |int=>
       have:=ba.int;subst this;cases ae:cQ.key<;>rw[ae]at au<;>simp[Instr.sameNow]at au
       obtain⟨rfl,h⟩:=au;rw[h]
      |str=>
       have:=ba.str;subst this;cases ae:cQ.key<;>rw[ae]at au<;>simp[Instr.sameNow,aaP]at au
       rw[au]
     exact fin _ clock LO λw ur=>amN fM sY (w9.isKey ba) ur aA ai yg
   ·cases az
  ·cases az
end
section
variable{X:cV}{G:GT}{pr:mg}{D:bQ}{m m':br}{F:Fr}{ao:be aq}{C:dF}{I:aM}{M:List aE}{K:gm}{o:Oper}{v:aq}
def aaW(aQ:cU X.P X.E)(ak:∀ d,o.dst=some d->d<X.n){s d e:Nat}(aK:o.op=.convert s d x){d' bT:Nat}{SE:List Value}(au:X.E s=some ⟨cM,b1,AA,.slice e⟩)(fD:X.E d=some ⟨d',bT,SE,.string⟩)(ag:Fa (X.E e)=true)
  {id off n:Nat} (h:Mm G m id off n=some (v,m')) (ad:∃ a c,D id=some a/\bF F x=.val (.slice (some ⟨a.b,a.o+off,none⟩) n c)) (hm:c8 (dP X G pr) D m I M)
  (k:sj X G pr D m I M v m' o.dst F C K):bB X o F C I M K:=by
 unfold Mm at h;obtain⟨a,c,a6,ex⟩:=ad;obtain⟨aU,l,vs,aJ,bm,ay,h⟩:=w3 (u:=.pointer (some ⟨a.b,a.o+off,none⟩)) hm (by simp only[aT];exact⟨a,a6,rfl⟩) h;cases aJ;obtain⟨bJ,pX,h⟩:=cx h;cases h;have iU:=aaN pX ay;have c1:bJ.length=n:=by have:=bm.2;obtain⟨_,_,_,_,_,ab⟩:=this;rw[<-ab,iU];simp
 subst iU;obtain⟨aI,he,kI⟩:∃ aI,X.E e=some aI/\aI.bM=.int .u8:=by
  unfold Fa at ag;split at ag;·rename_i h;exact⟨_,h,rfl⟩
  ·cases ag
 refine bB.alL aQ aK ak au rfl he kI fD rfl ex c1 bm ?_;exact k D _ M bQ.pC (by simp only[aT]) hm
def amS(aQ:cU X.P X.E)(ak:∀ d,o.dst=some d->d<X.n){s d:Nat}(aK:o.op=.convert s d x)(h:Mn (dP X G pr) m s d (dn ao x)=some (v,m'))(H:jz D F ao o.op.operands.toList)(hm:c8 (dP X G pr) D m I M)
  (k:sj X G pr D m I M v m' o.dst F C K):bB X o F C I M K:=by
 unfold Mn at h;rw[aK]at H;split at h
 ·rename_i aa ab aj;obtain⟨ag,h⟩:=fZ h;obtain⟨u,aJ,a8⟩:=H.bF (x:=x) (by simp[Op.operands]) aj;obtain⟨a,a6,rfl⟩:=a8.s7;exact aaW aQ ak aK aa ab ag h ⟨a,_,a6,aJ⟩ hm k
 ·rename_i aa ab aj;obtain⟨ag,h⟩:=fZ h;obtain⟨u,aJ,a8⟩:=H.bF (x:=x) (by simp[Op.operands]) aj;obtain⟨a,a6,_,rfl⟩:=a8.vA;exact aaW aQ ak aK aa ab ag h ⟨a,_,a6,aJ⟩ hm k
 ·rename_i aa ab aj;obtain⟨ag,h⟩:=fZ h;obtain⟨u,aJ,a8⟩:=H.bF (x:=x) (by simp[Op.operands]) aj;cases h;simp only[aT]at a8;subst a8;obtain⟨aI,he,kI⟩:∃ aI,X.E _=some aI/\aI.bM=.int .u8:=by
   unfold Fa at ag;split at ag;·rename_i h;exact⟨_,h,rfl⟩
   ·cases ag
  refine bB.alM aQ aK ak aa rfl he kI ab rfl aJ ?_;exact k D _ M bQ.pC (by simp only[aT]) hm
 ·cases h
def aaX(q:List UInt8):bL D (q.map λb=>aq.i .u8 (.ofNat b.toNat)) (lF ⟨q.toArray⟩):=by
 unfold lF;simp only
 induction q with
 |nil=>exact .nil| cons b q aF=>exact .cons (by simp only[aT];rfl) aF
def ML{l:List Operand}{a b:aq}(h:oB ao l=some [a,b]):∃ x y,l=[x,y]/\dn ao x=some a/\dn ao y=some b:=by
 match l,h with
 |[],h=>simp[oB]at h
 |[x],h=>
  simp only[oB]at h;split at h;·rename_i aJ a4;cases a4;cases h
  ·cases h
 |[x,y],h=>
  simp only[oB]at h;split at h
  ·rename_i aJ a4;split at a4
   ·rename_i cn dc;cases dc;cases a4;cases h;exact⟨x,y,rfl,aJ,cn⟩
   ·cases a4
  ·cases h
 |x::y::z::l,h=>
  simp only[oB]at h;split at h
  ·rename_i aJ a4;split at a4
   ·rename_i cn dc;split at dc
    ·cases dc;cases a4;cases h
    ·cases dc
   ·cases a4
  ·cases h
def c8.sub{M':List aE}(h:c8 (dP X G pr) D m I M)(au:∀ x∈M,x∈M'):c8 (dP X G pr) D m I M':=
 ⟨λid e a hi a6=>(h.jb id e a hi a6).mono (bQ.le_refl D) (λx ad _=>au x ad),h.inj,h.j5,h.q8⟩
def amT(aQ:cU X.P X.E)(ak:∀ d,o.dst=some d->d<X.n)(aK:o.op=.call { callee:=.builtin .copy,args:=args,argTypes:=fT })(h:R2 (dP X G pr) m fT.toList (oB ao args.toList)=some (v,m'))
  (H:jz D F ao args.toList) (hm:c8 (dP X G pr) D m I M) (k:sj X G pr D m I M v m' o.dst F C K):bB X o F C I M K:=by
 unfold R2 at h;split at h
 ·rename_i t u id off n c q ax ay;split at h
  ·rename_i sa s8 sz e o4;obtain⟨aI,he,h⟩:=cx h;obtain⟨ag,h⟩:=fZ h;rw[cz]at ag;obtain⟨m2,ab,-,-,aj⟩:=SC (Y:=dP X G pr) h;cases ab;obtain⟨x,y,nw,xb,amU⟩:=ML ay;obtain⟨w7,ad,ba⟩:=H.bF (x:=x) (by rw[nw];simp) xb;obtain⟨si,aH,fq⟩:=H.bF (x:=y) (by rw[nw];simp) amU;obtain⟨a,a6,rfl⟩:=ba.s7;have amV:=fq.str;subst amV;obtain⟨g,Kx,a9,post,arr,T,cn,a',jH,oW,⟨jc,cQ,hf,mi,Ex,av⟩,mP⟩:=aj hm (u:=.pointer (some ⟨a.b,a.o+off,none⟩)) (by simp only[aT];exact⟨a,a6,rfl⟩) (aaX q);cases cn;have mQ:M.Perm (⟨a.b,.cells arr T (0,0)⟩::(a9++post)):=by rw[a'];exact mN
   have CY:args=#[x,y]:=by apply gY;simpa using nw
   have CZ:fT=#[t,u]:=by apply gY;simpa using ax
   have da:(⟨q.toArray⟩:ByteArray).size=q.length:=by simp[ByteArray.size]
   have nc:(lF ⟨q.toArray⟩).length=q.length:=by simp[lF]
   refine bB.WI aQ (by rw[aK,CY,CZ]) ak o4 rfl he (dR ag.1) ad aH (by rw[da];exact bI ag.2) (by rw[da,<-nc];exact jH) mQ ?_;rw[da];have SF:(a9++(⟨a.b,.cells (ck arr.toList (a.o+off) (lF ⟨q.toArray⟩)).toArray T (0,0)⟩:aE)::post).Perm (⟨a.b,.cells (ck arr.toList (a.o+off) (lF ⟨q.toArray⟩)).toArray T (0,0)⟩::(a9++post)):=mN;exact k D (.int .i64 q.length) _ bQ.pC (by simp only[aT];rfl) (mP.sub λx ad=>SF.mem_iff.1 ad)
  ·cases h
 ·cases h
end
section
variable{P:Program}{w:World}
def aaY(t u ty e:Nat)(i:TypeInfo)(ax:P.underlying t=some (.slice e))(hu:P.underlying u=some mC)(oi:∀ k,mC≠.int k)(hi:P.info? e=some i)
 {n c T:Nat} {arr:Array Value} (av:w.heap[g]?=some (.cells arr T (0,0))) {x:Value} {m:Nat} (aa:∀ v∈ch,v.oneCell'=true)
  (c1:∀ w',(Builtin.lenOf x).run P w'=.ok m w') (fg:(Builtin.firstCells i.size m x).run P w=.ok ch.toArray w) (u3:n+m<=c) (jH:off+n*i.size+ch.length<=arr.size) :
  (Builtin.append_ #[t,u] ty #[.slice (some ⟨g,off,none⟩) n c,x]).run P w=.ok (.slice (some ⟨g,off,none⟩) (n+m) c) (w.setRow g (ck arr.toList (off+n*i.size) ch).toArray):=by
 have Hj:(match mC with | .int _=>true | _=>false)=false:=by cases mC<;>first | rfl | exact(oi _ rfl).elim
 have dS:=run_storeCells_at P g (off+n*i.size) T ch 0 arr w av (by simpa using jH) aa;simp only[qt]at dS;have amW:(Addr.add ⟨g,off,none⟩ (n*i.size))=⟨g,off+n*i.size,none⟩:=eU _ rfl _;simp[Builtin.append_,run_underlying ax,run_underlying hu,sizeOf,typeInfo,hi,c1,u3,fg,amW,dS,ck]
def amX(t u ty e:Nat)(i:TypeInfo)(z:Value)(ax:P.underlying t=some (.slice e))(hu:P.underlying u=some mC)(oi:∀ k,mC≠.int k)(hi:P.info? e=some i)(bb:i.zero=some z)(qH:z.cells.size=i.size)
 {n c:Nat} (hold:(Builtin.firstCells i.size n (.slice cS n c)).run P w.drew=.ok xs.toArray w.drew) (yI:xs.length=n*i.size) {x:Value} {m:Nat} (ay:ch.length=m*i.size)
  (c1:∀ w',(Builtin.lenOf x).run P w'=.ok m w') (fg:(Builtin.firstCells i.size m x).run P w.drew=.ok ch.toArray w.drew) (u3:c<n+m) (b1:n+m<=maxLen) (bT:(n+m)*i.bytes<=140737488355328) :
  ∃ cap aS,(Builtin.append_ #[t,u] ty #[.slice cS n c,x]).run P w=.ok (.slice (some ⟨w.heap.size,0,none⟩) (n+m) cap) (w.drew.alloc (.cells (xs++ch++aS).toArray e (0,0)))/\n+m<=cap/\cap<=maxLen/\(xs++ch++aS).length=cap*i.size:=by
 have Hj:(match mC with | .int _=>true | _=>false)=false:=by cases mC<;>first | rfl | exact(oi _ rfl).elim
 have aC:¬ (n+m<=c):=by omega
 have hb:n+m<=9223372036854775807:=by simp only[maxLen]at b1;exact b1
 have B1:¬ (9223372036854775807<((n:Int)+(m:Int))):=by omega
 have B2:¬ (281474976710656<Builtin.nextslicecap (n+m) c*i.bytes):=by have:=growslice_fits (by omega:c<n+m) bT;omega
 have cJ:=grownCap_ge w (n+m) c e;have iY:grownCap w (n+m) c e<=maxLen:=grownCap_le_maxLen w (n+m) c e b1;refine⟨grownCap w (n+m) c e,(Builtin.zeroCells z.cells (grownCap w (n+m) c e-(n+m))).toList,?_,cJ,iY,?_⟩
 ·simp[Builtin.append_,run_underlying ax,run_underlying hu,sizeOf,typeInfo,zeroValue,hi,bb,c1,aC,B1,B2,Question.forced,fg,hold,newRow,grownCap];congr 2;apply gY;simp
 ·rw[b3,b3,yI,ay,zu,size_zeroCells,qH,<-l8,<-l8];congr 1;omega
end
section
variable{X:cV}{G:GT}{pr:mg}{D:bQ}{m m':br}{F:Fr}{ao:be aq}{C:dF}{I:aM}{M:List aE}{K:gm}{o:Oper}{v:aq}
def cO.MM{aU:Addr}{n:Nat}{vs:List Value}(h:cO I M aU n vs)(ly:eF I M w)(j:Nat)(v:Value)(ai:vs[j]?=some v):w.cell? (aU.add j)=some v:=by
 obtain⟨dO,cs,T,ao,ff,ah,ay⟩:=h;rw[eU _ dO,tw (ff.heap ly)];rw[<-ah,lu]at ai;split at ai
 ·rw[od]at ai;simpa using ai
 ·cases ai
def amY{x:aq}{k:Nat}{K:List aq->Option R}{r:R}(h:Fb G m.t x aI.size K=some r)(au:wZ ut aI x=true)(ad:aT D x u)(hm:c8 (dP X G pr) D m I M)(ae:s6 x=some k)(az:k≠0) :
  ∃ l vs,K l=some r/\bL D l vs/\(∀ w',(Builtin.lenOf u).run X.P w'=.ok k w')/\(∀ w,eF I M w->(Builtin.firstCells aI.size k u).run X.P w=.ok vs.toArray w)/\vs.length=k*aI.size /\
   ((∃ a b z e,ut=some ⟨a,b,z,.slice e⟩)\/∃ a b z,ut=some ⟨a,b,z,.string⟩):=by
 have SG:(∃ a b z e,ut=some ⟨a,b,z,.slice e⟩)\/∃ a b z,ut=some ⟨a,b,z,.string⟩:=by
  unfold wZ at au;split at au<;>first | exact .inl ⟨_,_,_,_,rfl⟩ | exact .inr ⟨_,_,_,rfl⟩ | cases au
 cases x<;>simp only[Fb]at h<;>first | cases h | skip
 case sn=>simp[s6,wY]at ae;exact(az ae.symm).elim
 case so=>simp[s6,wY]at ae;exact(az ae.symm).elim
 case sl id off n c=>
  simp only[s6,wY,j9]at ae;subst ae;obtain⟨a,a6,rfl⟩:=ad.s7;obtain⟨aU,l,vs,aJ,bm,ay,h⟩:=w3 (u:=.pointer (some ⟨a.b,a.o+off,none⟩)) hm (by simp only[aT];exact⟨a,a6,rfl⟩) h;cases aJ;have pD:=bm;obtain⟨_,_,_,_,_,_,c1⟩:=pD;exact⟨l,vs,h,ay,λ_=>rfl,λw hw=>run_firstCells_some (P:=X.P) w aI.size n _ n c vs c1 (λj v ai=>bm.MM hw j v ai),c1,SG⟩
 case sx id off e n=>
  simp only[s6,wY,j9]at ae;subst ae;obtain⟨a,a6,_,rfl⟩:=ad.vA;obtain⟨aU,l,vs,aJ,bm,ay,h⟩:=w3 (u:=.pointer (some ⟨a.b,a.o+off,none⟩)) hm (by simp only[aT];exact⟨a,a6,rfl⟩) h;cases aJ;have pD:=bm;obtain⟨_,_,_,_,_,_,c1⟩:=pD;exact⟨l,vs,h,ay,λ_=>rfl,λw hw=>run_firstCells_some (P:=X.P) w aI.size n _ n _ vs c1 (λj v ai=>bm.MM hw j v ai),c1,SG⟩
 case s q=>
  simp only[s6,j9]at ae;subst ae;have amZ:aI.size=1:=by
   unfold wZ at au;split at au<;>first | exact dR au | (rename_i e;cases e) | cases au
  have:=ad.str;subst this;have aN:(⟨q.toArray⟩:ByteArray).size=q.length:=by simp[ByteArray.size]
  refine⟨_,lF ⟨q.toArray⟩,h,aaX q,λw=>?_,λw hw=>?_,by simp[lF,amZ],SG⟩;·show Result.ok _ _=_;rw[aN]
  ·have:=V7 w aI.size (P:=X.P) ⟨q.toArray⟩;rw[aN]at this;exact this
def SH(aQ:cU X.P X.E)(ak:∀ d,o.dst=some d->d<X.n){s:Operand}{u:Nat}(aK:o.op=.call { callee:=.builtin .append,args:=#[s,x],argTypes:=#[t,u] })
 (ax:X.E t=some ⟨cM,b1,AA,.slice e⟩) (hu:X.E u=some l9) (fL:∀ k,l9.bM≠.int k) (he:X.E e=some aI)
 {n c k:Nat} {SI:Value} (au:bF F s=.val (.slice cS n c)) (ad:bF F x=.val SI) (yI:xs.length=n*aI.size) (rQ:ch.length=k*aI.size) (aa:gA ch=true)
  (c1:∀ w',(Builtin.lenOf SI).run X.P w'=.ok k w') (fg:∀ w,eF I M w->(Builtin.firstCells aI.size k SI).run X.P w=.ok ch.toArray w)
  (hold:∀ w,eF I M w->(Builtin.firstCells aI.size n (.slice cS n c)).run X.P w=.ok xs.toArray w) (b1:n+k<=maxLen) (bT:(n+k)*aI.bytes<=140737488355328)
  (am0:n+k<=c->∃ g off T arr a9 post,cS=some ⟨g,off,none⟩/\M=a9++⟨g,.cells arr T (0,0)⟩::post/\off+n*aI.size+ch.length<=arr.size /\ K (put o.dst (.val (.slice cS (n+k) c)) F) C I (a9++⟨g,.cells (ck arr.toList (off+n*aI.size) ch).toArray T (0,0)⟩::post))
  (am1:c<n+k->∀ b cap aS,I b=none->(∀ y∈M,y.num≠b)->n+k<=cap->cap<=maxLen->(xs++ch++aS).length=cap*aI.size ->
   K (put o.dst (.val (.slice (some ⟨b,0,none⟩) (n+k) cap)) F) C I (⟨b,.cells (xs++ch++aS).toArray e (0,0)⟩::M)):bB X o F C I M K:=by
 refine⟨λa w Q ⟨β,aV⟩=>?_⟩;obtain⟨inf,z,hi,ft,iW,iB,kE⟩:=(aQ _ _ he).inf;obtain⟨d,fM,fu⟩:=(aQ _ _ hu).fx;obtain⟨gp,jV,kj⟩:=(aQ _ _ ax).fx;have qI:gp=.slice e:=by cases gp<;>simp_all[fw]
 subst qI;have qH:z.cells.size=inf.size:=by rw[ft,<-(aQ _ _ he).len,<-kE];simp
 have es:=df aV.ao au;have ex:=df aV.ao ad;have oi:∀ k,d≠.int k:=λk cQ=>fL k (by rw[<-fu,cQ];rfl);rw[<-ft]at yI rQ hold fg;by_cases u3:n+k<=c
 ·obtain⟨g,off,T,arr,a9,post,rfl,a',jH,ae⟩:=am0 u3;rw[<-ft]at jH ae;have av:w.heap[g]?=some (.cells arr T (0,0)):=aV.holds.m ⟨g,.cells arr T (0,0)⟩ (by rw[a'];simp);have fj:=aaY (P:=X.P) (w:=w) t u o.type e inf jV fM oi hi av (zj aa) c1 (fg w aV.holds) u3 jH;refine jg (by rw[aK];simp) ?_ ⟨_,_,_,_,⟨β,cN.put (x:=.val (.slice (some ⟨g,off,none⟩) (n+k) c)) (aV.xQ a') ak rfl⟩,ae⟩;unfold execOp;simp only[aK,resolve,invoke,builtin,ct,c3,bY,sG,bX,hx,es,ex,fj]
 ·have ly:eF I M w.drew:=aV.holds.heap rfl;obtain⟨cap,aS,fj,ab,aj,aG⟩:=amX (P:=X.P) (w:=w) t u o.type e inf z jV fM oi hi iB qH (hold w.drew ly) yI rQ c1 (fg w.drew ly) (by omega) b1 (by rw[iW];exact bT);have lG:cN X β a w.drew F C I M:=aV.world rfl;rw[ft]at aG;refine jg (by rw[aK];simp) ?_ ⟨_,_,_,_,⟨β,cN.put (x:=.val (.slice (some ⟨w.heap.size,0,none⟩) (n+k) cap)) (lG.oe (.cells (xs++ch++aS).toArray e (0,0))) ak rfl⟩,am1 (by omega) w.heap.size cap aS aV.holds.sE aV.holds.rr ab aj aG⟩;unfold execOp;simp only[aK,resolve,invoke,builtin,ct,c3,bY,sG,bX,hx,es,ex,fj]
def aaZ{u:Nat}{x:aq}(h:wZ (X.E u) aI x=true):∃ l9,X.E u=some l9/\∀ k,l9.bM≠.int k:=by
 unfold wZ at h;split at h<;>first | (cases h;done) | (rename_i e;exact⟨_,e,by simp⟩) | (rename_i e _;exact⟨_,e,by simp⟩) | (rename_i e _ _;exact⟨_,e,by simp⟩)
def am2{s:aq}(h:Fc s=true)(au:aT D s u):∃ a n c,u=.slice a n c/\n<=c:=by
 cases s<;>simp only[Fc,lv]at h
 case sn=>exact⟨_,_,_,au.CU,b2 _⟩
 case so=>obtain⟨a,c,rfl⟩:=au.My;exact⟨_,_,_,rfl,dw _⟩
 case sl=>obtain⟨a,_,rfl⟩:=au.s7;exact⟨_,_,_,rfl,bI h⟩
 case sx=>obtain⟨a,_,bq,rfl⟩:=au.vA;exact⟨_,_,_,rfl,by omega⟩
def am3{x:aq}(au:wZ ut aI x=true)(ad:aT D x u)(ae:s6 x=some 0):(∃ b c,u=.slice b 0 c)\/u=.string .empty:=by
 cases x<;>simp[s6,wY]at ae
 case sn=>exact .inl ⟨_,_,ad.CU⟩
 case so=>obtain⟨a,c,rfl⟩:=ad.My;exact .inl ⟨_,_,rfl⟩
 case sl=>subst ae;obtain⟨a,_,rfl⟩:=ad.s7;exact .inl ⟨_,_,rfl⟩
 case sx=>subst ae;obtain⟨a,_,_,rfl⟩:=ad.vA;exact .inl ⟨_,_,rfl⟩
 case gs=>subst ae;exact .inl ⟨_,_,ad.Sj⟩
 case s=>subst ae;exact .inr ad.str
noncomputable abbrev SJ(X:cV)(G:GT)(m:br)(s x:aq)(aI:dH)(aO e:Nat):List aq->Option (aq×br):=λl=>bn (some aO) none λk=>b0 (Nat.beq k 0) (b0 (Fc s) (some (s,m)) none) (b0 (l.all aq.one) (Ix G m s l k aI.size aI.bytes e) none)
def am4(aQ:cU X.P X.E)(ak:∀ d,o.dst=some d->d<X.n){u:Nat}(aK:o.op=.call { callee:=.builtin .append,args:=#[os,p'],argTypes:=#[t,u] })
 (ax:X.E t=some ⟨cM,b1,AA,.slice e⟩) {s x:aq} (vG:wZ (X.E u) aI x=true) (he:X.E e=some aI) (ae:s6 x=some 0) {us:Value}
  (es:bF F os=.val us) (gs:aT D s us) (ex:bF F p'=.val mv) (AJ:aT D x mv) (h:Fb G m.t x aI.size (SJ X G m s x aI 0 e)=some (v,m'))
  (hm:c8 (dP X G pr) D m I M) (k:sj X G pr D m I M v m' o.dst F C K):bB X o F C I M K:=by
 have ab:∃ l,SJ X G m s x aI 0 e l=some (v,m'):=by
  cases x<;>simp only[Fb]at h<;>first | cases h | exact⟨_,h⟩ | skip
  case sl=>obtain⟨a,a6,rfl⟩:=AJ.s7;obtain⟨_,l,_,_,_,_,h⟩:=w3 (u:=.pointer (some ⟨a.b,a.o+_,none⟩)) hm (by simp only[aT];exact⟨a,a6,rfl⟩) h;exact⟨l,h⟩
  case sx=>obtain⟨a,a6,_,rfl⟩:=AJ.vA;obtain⟨_,l,_,_,_,_,h⟩:=w3 (u:=.pointer (some ⟨a.b,a.o+_,none⟩)) hm (by simp only[aT];exact⟨a,a6,rfl⟩) h;exact⟨l,h⟩
 obtain⟨l,ab⟩:=ab;have aj:b0 (Fc s) (some (s,m)) none=some (v,m'):=ab;obtain⟨an,aj⟩:=fZ aj;cases aj;obtain⟨a,n,c,rfl,nf⟩:=am2 an gs;obtain⟨l9,hu,fL⟩:=aaZ vG;exact bB.P1 aQ aK ak ax rfl hu fL he es nf ex (am3 vG AJ ae) (k D _ M bQ.pC gs hm)
def am5(aQ:cU X.P X.E)(ak:∀ d,o.dst=some d->d<X.n){u:Nat}(aK:o.op=.call { callee:=.builtin .append,args:=#[os,p'],argTypes:=#[t,u] })
 (ax:X.E t=some ⟨cM,b1,AA,.slice e⟩) (hu:X.E u=some l9) (fL:∀ k,l9.bM≠.int k) (he:X.E e=some aI) {us:Value} {id off n c aO:Nat}
  (es:bF F os=.val us) (gs:aT D (.sl id off n c) us) (ex:bF F p'=.val mv) {l:List aq} {vs:List Value} (h:RX G m id off n c l aO aI.size e=some (v,m')) (hb:n+aO<=maxLen) (gS:(n+aO)*aI.bytes<=140737488355328)
  (ay:bL D l vs) (s0:vs.length=aO*aI.size) (aa:gA vs=true) (c1:∀ w',(Builtin.lenOf mv).run X.P w'=.ok aO w') (fg:∀ w,eF I M w->(Builtin.firstCells aI.size aO mv).run X.P w=.ok vs.toArray w)
  (hm:c8 (dP X G pr) D m I M) (k:sj X G pr D m I M v m' o.dst F C K):bB X o F C I M K:=by
 have IT:∀ {q:List Value} {c:Nat},q.length=c*aI.size->∀ i,(dP X G pr).E e=some i->q.length=c*i.size:=λaN i hi=>by have:X.E e=some i:=hi;rw[he]at this;cases this;exact aN
 obtain⟨a,a6,rfl⟩:=gs.s7;unfold RX at h;by_cases af:n+aO<=c
 ·have ag:Nat.ble (Nat.add n aO) c=true:=CF af;rw[ag]at h;have bc:yE m (.p id (Nat.add off (Nat.mul n aI.size))) l (λm=>some (aq.sl id off (Nat.add n aO) c,m))=some (v,m'):=h;obtain⟨m2,ab,-,-,aj⟩:=SC (Y:=dP X G pr) bc;cases ab;obtain⟨g,Kx,a9,post,arr,T,aJ,a',jH,oW,⟨jc,cQ,hf,mi,Ex,av⟩,mP⟩:=aj hm (u:=.pointer (some ⟨a.b,a.o+(off+n*aI.size),none⟩)) (by simp only[aT];exact⟨a,a6,rfl⟩) ay;cases aJ;refine⟨λac w Q ⟨β,aV⟩=>?_⟩;obtain⟨inf,z,hi,ft,iW,iB,kE⟩:=(aQ _ _ he).inf;obtain⟨d,fM,fu⟩:=(aQ _ _ hu).fx;obtain⟨gp,jV,kj⟩:=(aQ _ _ ax).fx;have qI:gp=.slice e:=by cases gp<;>simp_all[fw]
  subst qI;have av:w.heap[a.b]?=some (.cells arr T (0,0)):=aV.holds.m ⟨a.b,.cells arr T (0,0)⟩ (by rw[a'];simp);have vF:=df aV.ao es;have C0:=df aV.ao ex;rw[<-ft]at fg;have fj:=aaY (P:=X.P) (w:=w) t u o.type e inf jV fM (λk cQ=>fL k (by rw[<-fu,cQ];rfl)) hi av (zj aa) c1 (fg w aV.holds) af (off:=a.o+off) (by rw[ft];omega);rw[ft,tr]at fj;have lG:=aV.xQ (cs':=(ck arr.toList (a.o+(off+n*aI.size)) vs).toArray) a';refine jg (by rw[aK];simp) ?_ ⟨_,_,_,_,⟨β,cN.put (x:=.val (.slice (some ⟨a.b,a.o+off,none⟩) (n+aO) c)) lG ak rfl⟩,?_⟩;·unfold execOp;simp only[aK,resolve,invoke,builtin,ct,c3,bY,sG,bX,hx,vF,C0,fj]
  ·exact k D _ _ bQ.pC (by simp only[aT];exact⟨a,a6,rfl⟩) mP
 ·have ag:Nat.ble (Nat.add n aO) c=false:=by
   cases ag:Nat.ble (Nat.add n aO) c with
   |false=>rfl| true=>exact absurd (bI ag) af
  rw[ag]at h;have bc:um G m.t (.p id off) (Nat.mul n aI.size) (λdI=>vy m (dI++l) e λid m=>some (aq.sx id 0 0 (Nat.add n aO),m))=some (v,m'):=h;obtain⟨aU,dI,xs,aJ,bm,e2,ab⟩:=w3 (u:=.pointer (some ⟨a.b,a.o+off,none⟩)) hm (by simp only[aT];exact⟨a,a6,rfl⟩) bc;cases aJ;obtain⟨m2,bZ,aC,ek⟩:=Sz (Y:=dP X G pr) ab;cases bZ;have pD:=bm;obtain⟨_,_,_,_,_,_,hz⟩:=pD;refine SH aQ ak aK ax hu fL he es ex hz s0 aa c1 fg (λw hw=>run_firstCells_some (P:=X.P) w aI.size n _ n c xs hz (λj v ai=>bm.MM hw j v ai)) hb gS (λe6=>(af e6).elim) λ_ b cap aS bz aA yJ uu sk=>?_;refine k _ _ _ bQ.Ft ?_ (ek aS hm aA (e2.append ay) (IT sk) uu);simp only[aT];exact⟨_,bQ.qf _ _ _,by simpa using yJ,by simp⟩
def am6(aQ:cU X.P X.E)(ak:∀ d,o.dst=some d->d<X.n){u:Nat}(aK:o.op=.call { callee:=.builtin .append,args:=#[os,p'],argTypes:=#[t,u] })
 (ax:X.E t=some ⟨cM,b1,AA,.slice e⟩) (hu:X.E u=some l9) (fL:∀ k,l9.bM≠.int k) (he:X.E e=some aI) {us:Value} {id n fQ aO:Nat} {cs:be aq}
  (es:bF F os=.val us) (gs:aT D (.sx id 0 0 n) us) (ex:bF F p'=.val mv) (av:m.t.get id=some (.cells cs e fQ)) {l:List aq} {vs:List Value} (h:RY m id n cs fQ l aO aI.size e=some (v,m')) (hb:n+aO<=maxLen) (gS:(n+aO)*aI.bytes<=140737488355328)
  (ay:bL D l vs) (s0:vs.length=aO*aI.size) (aa:gA vs=true) (c1:∀ w',(Builtin.lenOf mv).run X.P w'=.ok aO w') (fg:∀ w,eF I M w->(Builtin.firstCells aI.size aO mv).run X.P w=.ok vs.toArray w)
  (hm:c8 (dP X G pr) D m I M) (k:sj X G pr D m I M v m' o.dst F C K):bB X o F C I M K:=by
 obtain⟨a,a6,bq,rfl⟩:=gs.vA;have qw:=hm.jb _ _ _ av a6;obtain⟨arr,yK,a',da,an,ae,iz⟩:=qw;unfold RY at h;obtain⟨AF,h⟩:=fZ h;have aa0:n*aI.size<=fQ:=bI AF;obtain⟨t1,ab,aj⟩:=be.py (none:Option fP) m.t id;rw[ab]at h;obtain⟨cs',aG,bx⟩:=be.yG l cs (Nat.mul n aI.size);have bc:be.yA l cs (Nat.mul n aI.size) (λcs=>CO (⟨t1,m.n⟩:br) (.cells cs e (Nat.mul (Nat.add n aO) aI.size)) λid m=>some (aq.sx id 0 0 (Nat.add n aO),m))=some (v,m'):=h;rw[aG]at bc;obtain⟨t2,bZ,ek⟩:=IQ bc;cases ek;have jY:∀ i fh,t1.get i=some fh->i≠id/\m.t.get i=some fh:=λi fh hi=>by
  rcases aj i fh hi with⟨_,fv⟩ | fv;·cases fv
  ·exact fv
 have aa1:c8 (dP X G pr) D ⟨t1,m.n⟩ I M:=⟨λi fh b hi=>hm.jb i fh b (jY i fh hi).2,λi gX fh AK b iV hi cZ=>hm.inj i gX fh AK b iV (jY i fh hi).2 (jY gX AK cZ).2,hm.j5,hm.q8⟩;have aa2:arr.size=a.c*aI.size:=by have:=ae aI he;rw[yK,cX]at this;exact this
 have Mx:=ay.len;have yI:((arr.toList.take (n*aI.size)).length=n*aI.size):=by rw[hT,zu];omega
 have H6:∀ j,j<n*aI.size->∀ v,cs.get j=some v->∃ x,(arr.toList.take (n*aI.size))[j]?=some x/\aT D v x:=λj ai v ah=>by obtain⟨x,a8,ba⟩:=an j v (by omega) ah;rw[yK,cX]at a8;exact⟨x,by rw[lu,bN ai];simpa using a8,ba⟩
 have aa3:∀ (bC:bQ) (M':List aE) (b e4:Nat) (bk:List Value),D.le bC->(⟨b,.cells (arr.toList.take (n*aI.size)++vs++bk).toArray e (0,0)⟩:aE)∈M'->(arr.toList.take (n*aI.size)++vs++bk).length=e4*aI.size->e4<=maxLen ->
   lT bC X.E M' ⟨b,0,e4⟩ (.cells cs' e (Nat.mul (Nat.add n aO) aI.size)):=by
  intro bC M' b e4 bk dk yL am7 am8;have hmul:(n+aO)*aI.size=n*aI.size+aO*aI.size:=l8 _ _ _;refine .cells _ rfl yL ?_ (λi v hi vE=>?_) (λi hi=>?_) am8;·show 0+(n+aO)*aI.size<=_;rw[oZ,b3,b3,yI,s0];omega
  ·have cZ:i<n*aI.size+aO*aI.size:=by have:i<(n+aO)*aI.size:=hi;omega
   simp only[cX,BP];rcases bx i v vE with⟨a8,ba⟩ | ⟨a8,ba⟩;·have MN:n*aI.size<=i:=a8;obtain⟨x,bR,fq⟩:=ay.get (i:=i-n*aI.size) ba;refine⟨x,?_,fq.mono dk⟩;rw[dY,nj (by omega),yI,rE (by omega)];exact bR
   ·have MN:i<n*aI.size:=by
     rcases a8 with a8 | a8;·exact a8
     ·have:n*aI.size+l.length<=i:=a8;omega
    obtain⟨x,bR,fq⟩:=H6 i MN v ba;refine⟨x,?_,fq.mono dk⟩;rw[dY,rE (by omega)];exact bR
  ·rw[he]at hi;cases hi;simpa using am7
 refine SH aQ ak aK ax hu fL he es ex yI s0 aa c1 fg (λw hw=>?_) hb gS (λaf=>?_) λ_ b cap aS bz aA yJ uu sk=>?_
 ·refine run_firstCells_some (P:=X.P) w aI.size n _ n _ _ yI λj v ai=>?_;rw[eU _ rfl,tw (hw.m _ a')];rw[lu]at ai;split at ai
  ·rw[yK];simpa using ai
  ·cases ai
 ·
  obtain⟨a9,post,dO⟩:=vC a';rw[Lx]at af;have jH:a.o+0+n*aI.size+vs.length<=arr.size:=by have dZ:=v' aI.size af;rw[l8]at dZ;rw[yK,aa2,s0];omega
  refine⟨a.b,a.o+0,e,arr,a9,post,rfl,dO,jH,?_⟩;have aa4:ck arr.toList (a.o+0+n*aI.size) vs=arr.toList.take (n*aI.size)++vs++arr.toList.drop (n*aI.size+vs.length):=by rw[yK];simp only[ck,cX]
  rw[aa4];have nW:∀ q∈M,q.num≠a.b->q∈a9++(⟨a.b,.cells (arr.toList.take (n*aI.size)++vs++arr.toList.drop (n*aI.size+vs.length)).toArray e (0,0)⟩:aE)::post:=λq aN aC=>by
   rw[dO]at aN;rcases cF.1 aN with aN | aN;·exact cF.2 (.inl aN)
   ·rcases eg.1 aN with rfl | aN
    ·exact(aC rfl).elim
    ·exact cF.2 (.inr (n9 _ aN))
  have IU:∀ i fh b,t1.get i=some fh->D i=some b->b.b≠a.b:=λi fh b hi ag C1=>(jY i fh hi).1 (hm.inj _ _ _ _ _ _ (jY i fh hi).2 av ag a6 C1);refine k _ _ _ bQ.Ft ?_ (aa1.step (m:=⟨t1,m.n⟩) (j:=m.n) (λi fh hi=>(bZ i fh hi).imp (λq=>⟨q.1,pA q.2⟩) λq=>q) (D.qf _ ⟨a.b,0,a.c⟩) (bQ.AD _ hm.fresh) (λi hi=>by unfold bQ.set;rw[bS hi]) (λi b ag=>?_) (λ_ _ h=>h) (λi fh b bs hi ag q aN aC=>nW q aN (by rw[aC];exact IU i fh b hi ag)) (aa3 _ _ _ _ (arr.toList.drop (n*aI.size+vs.length)) (bQ.AD _ hm.fresh) (by simp) ?_ iz) λi fh b bs hi ag=>IU i fh b hi ag);·simp only[aT];exact⟨_,bQ.qf _ _ _,by simpa using af,by rw[yK];rfl⟩
  ·unfold bQ.set at ag;split at ag
   ·show i<m.n+1;omega
   ·have:=hm.j5 _ _ ag;show i<m.n+1;omega
  ·rw[<-aa4,SB (by simpa using jH)];simpa using aa2
 ·
  refine k _ _ _ bQ.Ft ?_ (aa1.new (m:=⟨t1,m.n⟩) (a:=⟨b,0,cap⟩) bZ aA (aa3 _ _ _ _ _ (bQ.AD _ hm.fresh) (by simp) sk uu));simp only[aT];exact⟨_,bQ.qf _ _ _,by simpa using yJ,by simp⟩
def am9(aQ:cU X.P X.E)(ak:∀ d,o.dst=some d->d<X.n){u:Nat}(aK:o.op=.call { callee:=.builtin .append,args:=#[os,p'],argTypes:=#[t,u] })
 (ax:X.E t=some ⟨cM,b1,AA,.slice e⟩) {s x:aq} (vG:wZ (X.E u) aI x=true) (he:X.E e=some aI) {aO:Nat} (ae:s6 x=some aO) (az:aO≠0) {us:Value}
  (es:bF F os=.val us) (gs:aT D s us) (ex:bF F p'=.val mv) (AJ:aT D x mv) (h:Fb G m.t x aI.size (SJ X G m s x aI aO e)=some (v,m'))
  (hm:c8 (dP X G pr) D m I M) (k:sj X G pr D m I M v m' o.dst F C K):bB X o F C I M K:=by
 obtain⟨l,vs,ab,ay,c1,fg,s0,_⟩:=amY (ut:=X.E u) h vG AJ hm ae az;have aj:b0 (Nat.beq aO 0) (b0 (Fc s) (some (s,m)) none) (b0 (l.all aq.one) (Ix G m s l aO aI.size aI.bytes e) none)=some (v,m'):=ab;rw[hE az]at aj;have aG:b0 (l.all aq.one) (Ix G m s l aO aI.size aI.bytes e) none=some (v,m'):=aj;obtain⟨oW,aG⟩:=fZ aG;have aa:=ay.one oW;obtain⟨l9,hu,fL⟩:=aaZ vG;have IT:∀ {q:List Value} {c:Nat},q.length=c*aI.size->∀ i,(dP X G pr).E e=some i->q.length=c*i.size:=λaN i hi=>by have:X.E e=some i:=hi;rw[he]at this;cases this;exact aN
 cases s<;>simp only[Ix]at aG<;>first | cases aG | skip
 case sn=>
  obtain⟨ag,bx⟩:=fZ aG;rw[cz]at ag;obtain⟨m2,bZ,aC,ek⟩:=Sz (Y:=dP X G pr) bx;cases bZ;have ja:=gs.CU;subst ja;have hb:0+aO<=maxLen:=by rw[cX];exact bI ag.2
  have gS:(0+aO)*aI.bytes<=140737488355328:=by rw[cX];exact bI ag.1
  refine SH aQ ak aK ax hu fL he (n:=0) (c:=0) (xs:=[]) es ex (by simp) s0 aa c1 fg (λw _=>by simp[run_firstCells_none]) hb gS (λaf=>by omega) λ_ b cap aS bz aA yJ uu sk=>?_;refine k _ _ _ bQ.Ft ?_ (ek aS hm aA ay (IT sk) uu);simp only[aT];exact⟨_,bQ.qf _ _ _,by simpa using yJ,by simp⟩
 case sl=>
  obtain⟨ag,bx⟩:=fZ aG;rw[cz]at ag;exact am5 aQ ak aK ax hu fL he es gs ex bx (bI ag.2) (bI ag.1) ay s0 aa c1 fg hm k
 case sx=>
  split at aG;·rename_i av;obtain⟨ag,bx⟩:=fZ aG;simp only[cz]at ag;obtain⟨⟨gf,gn⟩,ow,H5,LN⟩:=ag;have d1:=dR gf;have d2:=dR gn;have d3:=dR ow;subst d1;subst d2;subst d3;exact am6 aQ ak aK ax hu fL he es gs ex av bx (bI LN) (bI H5) ay s0 aa c1 fg hm k
  ·cases aG
def ana(aQ:cU X.P X.E)(ak:∀ d,o.dst=some d->d<X.n)(aK:o.op=.call { callee:=.builtin .append,args:=args,argTypes:=fT })(h:R1 (dP X G pr) m fT.toList (oB ao args.toList)=some (v,m'))
  (H:jz D F ao args.toList) (hm:c8 (dP X G pr) D m I M) (k:sj X G pr D m I M v m' o.dst F C K):bB X o F C I M K:=by
 unfold R1 at h;split at h
 ·rename_i t u s x ax ay;split at h
  ·rename_i sa s8 sz e o4;obtain⟨aI,he,h⟩:=cx h;obtain⟨vG,h⟩:=fZ h;obtain⟨os,p',nw,fz,xb⟩:=ML ay;obtain⟨us,es,gs⟩:=H.bF (x:=os) (by rw[nw];simp) fz;obtain⟨mv,ex,AJ⟩:=H.bF (x:=p') (by rw[nw];simp) xb;have CY:args=#[os,p']:=by apply gY;simpa using nw
   have CZ:fT=#[t,u]:=by apply gY;simpa using ax
   have rN:o.op=.call { callee:=.builtin .append,args:=#[os,p'],argTypes:=#[t,u] }:=by rw[aK,CY,CZ]
   cases ae:s6 x with
   |none=>
    exfalso;unfold wZ at vG;split at vG<;>first | (cases vG;done) | (simp[s6,wY]at ae;done)
   |some aO=>
    rw[ae]at h;by_cases az:aO=0;·subst az;exact am4 aQ ak rN o4 vG he ae es gs ex AJ h hm k
    ·exact am9 aQ ak rN o4 vG he ae az es gs ex AJ h hm k
  ·cases h
 ·cases h
end
section
variable{X:cV}{β:Nat->Nat}{F:Fr}{C:dF}{I:aM}{M:List aE}{o:Oper}{K:gm}
def SK(aQ:cU P E)(ax:E t=some c7)(dT:c7.bM=.slice e):P.underlying t=some (.slice e):=by
 obtain⟨gp,jV,kj⟩:=(aQ _ _ ax).fx;have qI:gp=.slice e:=by rw[dT]at kj;cases gp<;>simp_all[fw]
 rw[jV,qI]
def gB.SL(aQ:cU P E)(ax:E t=some c7)(dT:c7.bM=.slice e){n c c':Nat}{V:Value->Prop}{other:Prop}
  (h:V (.bool a.isNone)):gB P .eql t x y (.val (.slice a n c)) (.val (.slice none h2 c')) V other:=by
 have aa:=SK aQ ax dT;refine .mk _ _ _ rfl rfl (λw=>?_) h;have aJ:(eqGuard .eql t x y (.slice a n c) (.slice none h2 c')).run P w=.ok () w:=by unfold eqGuard;rfl
 simp only[ct,aJ,bY];exact Lib.run_eql_slice_nil w t e a n c h2 c' aa
def bB.slice3(aQ:cU X.P X.E)(aK:o.op=.slice t x (some lo) (some hi) (some mx))(ak:∀ d,o.dst=some d->d<X.n)
 (ax:X.E t=some c7) (dT:c7.bM=.slice e) (he:X.E e=some aI) {aU:Option Addr} {n c:Nat} (l h m:Nat) {en:IntKind}
  (ad:bF F x=.val (.slice aU n c)) (e2:bF F lo=.val (.int en (l:Nat))) (gF:bF F hi=.val (.int cE (h:Nat))) (iz:bF F mx=.val (.int gD (m:Nat)))
  (aa:l<=h) (ab:h<=m) (aj:m<=c) (k:K (put o.dst (.val (.slice (if m=l then aU else aU.map (·.add (l*aI.size))) (h-l) (m-l))) F) C I M):bB X o F C I M K:=by
 refine⟨λa w Q ⟨β,aV⟩=>?_⟩;have hu:=SK aQ ax dT;refine jg (by rw[aK];simp) (v:=.slice (if m=l then aU else aU.map (·.add (l*aI.size))) (h-l) (m-l)) (w':=w) ?_ ⟨_,_,_,_,⟨β,cN.put (x:=.val (.slice (if m=l then aU else aU.map (·.add (l*aI.size))) (h-l) (m-l))) aV ak rfl⟩,k⟩;have ex:=df aV.ao ad;have aJ:=df aV.ao e2;have a4:=df aV.ao gF;have cn:=df aV.ao iz;simp only[execOp,aK,Instr.sliceAt,Instr.slice,Instr.sliceBounds,Instr.sliceBound,ex,ct,run_underlying hu,bY,(aQ _ _ he).run_sizeOf,c3,lx,uM,aJ,a4,cn,oU];rw[bN ⟨by omega,by omega⟩];simp only[c3,bY,gz];rw[bN ⟨by omega,by omega⟩];simp only[c3,bY,gz];rw[bN ⟨by omega,by omega⟩];simp
end
section
variable{X:cV}{G:GT}{pr:mg}{D:bQ}{m m':br}{F:Fr}{ao:be aq}{C:dF}{I:aM}{M:List aE}{K:gm}{o:Oper}{v:aq}
def anb(aQ:cU X.P X.E)(ak:∀ d,o.dst=some d->d<X.n)(aK:o.op=.call { callee:=.builtin .unsafeString,args:=args,argTypes:=fT })(h:R3 (dP X G pr) m fT.toList (oB ao args.toList)=some (v,m'))
  (H:jz D F ao args.toList) (hm:c8 (dP X G pr) D m I M) (k:sj X G pr D m I M v m' o.dst F C K):bB X o F C I M K:=by
 unfold R3 at h;split at h
 ·rename_i uY it ax ay;cases h;obtain⟨op,on,nw,aa,ab⟩:=ML ay;obtain⟨w7,aJ,a8⟩:=H.bF (x:=op) (by rw[nw];simp) aa;obtain⟨si,a4,ba⟩:=H.bF (x:=on) (by rw[nw];simp) ab;have CY:args=#[op,on]:=by apply gY;simpa using nw
  have CZ:fT=#[uY,it]:=by apply gY;simpa using ax
  have MN:w7=.pointer none:=by simpa only[aT]using a8
  subst MN;rw[ba.int]at a4;refine bB.WH (by rw[aK,CY,CZ]) ak aJ a4 (k D _ M bQ.pC ?_ hm);simp only[aT];rfl
 ·rename_i uY it id n ax ay;split at h
  ·rename_i sa s8 sz e cs T fQ anc av;obtain⟨aI,he,ek⟩:=cx h;obtain⟨ag,fv⟩:=fZ ek;simp only[cz]at ag;obtain⟨op,on,nw,aa,ab⟩:=ML ay;obtain⟨w7,aJ,a8⟩:=H.bF (x:=op) (by rw[nw];simp) aa;obtain⟨si,a4,ba⟩:=H.bF (x:=on) (by rw[nw];simp) ab;have CY:args=#[op,on]:=by apply gY;simpa using nw
   have CZ:fT=#[uY,it]:=by apply gY;simpa using ax
   rw[ba.int]at a4;obtain⟨a,a6,rfl⟩:=a8.ptr;have qw:=hm.jb _ _ _ av a6;obtain⟨arr,yK,a',da,an,ae,iz⟩:=qw;have IT:=dR ag.2.1;subst IT;unfold um at fv;simp only[av]at fv;cases SM:Nat.ble (Nat.add 0 n) fQ with
   |false=>rw[SM]at fv;cases fv| true=>
   rw[SM]at fv;simp only[cb]at fv;have rQ:0+n<=fQ:=bI SM;obtain⟨l,gf,gn,dZ⟩:=be.Fj cs n 0 _ _ fv;obtain⟨bJ,pX,rU⟩:=cx dZ;obtain⟨PI,SN⟩:=fZ rU;obtain⟨t1,aG,bx⟩:=be.py (none:Option fP) m.t id;rw[aG]at SN;cases SN;have vf:(arr.toList.take n).length=n:=by rw[hT,zu];omega
   have Fv:bL D l (arr.toList.take n):=bL.Si (by rw[vf,gf]) λi v hi=>by
    have e8:i<n:=by rw[<-gf];exact(ij.1 hi).1
    obtain⟨x,bR,fq⟩:=an i v (by omega) (by have:=gn i e8;rw[cX]at this;rw[this,hi]);rw[yK,cX]at bR;exact⟨x,by rw[lu,bN e8];simpa using bR,fq⟩
   have iU:=aaN pX Fv;have nc:bJ.length=n:=by have:=congrArg List.length iU;rw[vf]at this;simpa using this.symm
   obtain⟨a9,post,dO⟩:=vC a';have mQ:M.Perm (⟨a.b,.cells arr T (0,0)⟩::(a9++post)):=by rw[dO];exact mN
   have nR:arr.toList.take bJ.length=bJ.map λb=>Value.int .u8 b.toNat:=by rw[nc];exact iU
   have az:bJ≠[]:=λcQ=>by subst cQ;have:0<n:=bI ag.2.2;simp at nc;omega
   have er:bF F op=.val (.pointer (some ⟨a.b,0,none⟩)):=by rw[aJ,yK]
   have rv:bF F on=.val (.int .i64 bJ.length):=by rw[a4,nc];rfl
   refine bB.PH aQ (by rw[aK,CY,CZ]) ak anc rfl he (dR ag.1) er rv az (by rw[nc];exact bI PI) mQ nR ?_;have jY:∀ i fh,t1.get i=some fh->i≠id/\m.t.get i=some fh:=λi fh hi=>by
    rcases bx i fh hi with⟨_,fv⟩ | fv;·cases fv
    ·exact fv
   refine k D _ _ bQ.pC (by simp only[aT]) ⟨λi fh b hi hb=>?_,λi gX fh AK b iV hi cZ=>hm.inj i gX fh AK b iV (jY i fh hi).2 (jY gX AK cZ).2,hm.j5,hm.q8⟩;refine(hm.jb i fh b (jY i fh hi).2 hb).mono (bQ.le_refl D) λq aN aC=>?_;rcases eg.1 (mQ.mem_iff.1 aN)with rfl | aN;·exact((jY i fh hi).1 (hm.inj _ _ _ _ _ _ (jY i fh hi).2 av hb a6 aC.symm)).elim
   ·exact aN
  ·cases h
 ·cases h
def ane(aQ:cU X.P X.E)(ak:∀ d,o.dst=some d->d<X.n){v:aq}(aK:o.op=.slice t x (some lo) (some hi) (some mx))(h:RU X.E t (dn ao x) (dn ao lo) (dn ao hi) (dn ao mx)=some v)
  (H:jz D F ao o.op.operands.toList) (hm:c8 (dP X G pr) D m I M) (k:∀ x,gx D x v->K (put o.dst x F) C I M):bB X o F C I M K:=by
 unfold RU at h;split at h
 ·rename_i sz hQ z e id off n c en l cE bc gD gl ax ad e2 gF iz;obtain⟨aI,he,ek⟩:=cx h;obtain⟨ag,fv⟩:=fZ ek;simp only[cz]at ag;obtain⟨b1,bT,cw,hB⟩:=ag;cases fv;have b1:=bI b1;have bT:=bI bT;have cw:=bI cw;have hB:l+1<=gl:=bI hB;obtain⟨QW,dd,pk⟩:=H.bF (x:=x) (by rw[aK];simp[Op.operands]) ad;obtain⟨w7,aJ,a8⟩:=H.bF (x:=lo) (by rw[aK];simp[Op.operands]) e2;obtain⟨si,a4,ba⟩:=H.bF (x:=hi) (by rw[aK];simp[Op.operands]) gF;obtain⟨AI,cn,bR⟩:=H.bF (x:=mx) (by rw[aK];simp[Op.operands]) iz;rw[a8.int]at aJ;rw[ba.int]at a4;rw[bR.int]at cn;simp only[aT]at pk;obtain⟨a,a6,rfl⟩:=pk;refine bB.slice3 aQ aK ak ax rfl he l bc gl dd aJ a4 cn b1 bT cw (k _ (.val ?_));simp only[aT];refine⟨a,a6,?_⟩;rw[bS (by omega),lx,eU _ rfl];simp only[Ah,EU,EV,tr]
 ·cases h
def aa5{sz hQ:Nat}{z:List Value}{n c h m:Nat}(aK:o.op=.slice t x none (some hi) (some mx))(ax:X.E t=some ⟨sz,hQ,z,.slice e⟩)(he:X.E e=some aI)
  (ad:bF F x=.val (.slice a n c)) (cW:bF F hi=.val (.int cE (h:Nat))) (hm:bF F mx=.val (.int gD (m:Nat))) (aa:h<=m) (ab:m<=c) (k:K (put o.dst (.val (.slice (if m=0 then a else a.map (·.add (0*aI.size))) (h-0) (m-0))) F) C I M):gZ X o F C I M K:=by
 obtain⟨dst,C2,ty,pos,after,guard⟩:=o;simp only at aK;subst aK;have aJ:dC (dq F) x=.val (.slice a n c):=ad;have a4:dC (dq F) hi=.val (.int cE (h:Nat)):=cW;have cn:dC (dq F) mx=.val (.int gD (m:Nat)):=hm;simp only[gZ,cH,ax,he,aJ,a4,cn,uM,lx];exact⟨h,m,rfl,rfl,aa,ab,k⟩
def anf(aQ:cU X.P X.E)(ak:∀ d,o.dst=some d->d<X.n){v:aq}(aK:o.op=.slice t x none (some hi) (some mx))(h:RT X.E t (dn ao x) (dn ao hi) (dn ao mx)=some v)
  (H:jz D F ao o.op.operands.toList) (hm:c8 (dP X G pr) D m I M) (k:∀ x,gx D x v->K (put o.dst x F) C I M):gZ X o F C I M K:=by
 unfold RT at h;split at h
 ·rename_i sz hQ z e id off n c cE bc gD gl ax ad gF iz;obtain⟨aI,he,ek⟩:=cx h;obtain⟨ag,fv⟩:=fZ ek;simp only[cz]at ag;obtain⟨bT,cw,hB⟩:=ag;cases fv;have bT:=bI bT;have cw:=bI cw;have hB:0+1<=gl:=bI hB;obtain⟨QW,dd,pk⟩:=H.bF (x:=x) (by rw[aK];simp[Op.operands]) ad;obtain⟨si,a4,ba⟩:=H.bF (x:=hi) (by rw[aK];simp[Op.operands]) gF;obtain⟨AI,cn,bR⟩:=H.bF (x:=mx) (by rw[aK];simp[Op.operands]) iz;rw[ba.int]at a4;rw[bR.int]at cn;simp only[aT]at pk;obtain⟨a,a6,rfl⟩:=pk;refine aa5 aK ax he dd a4 cn bT cw (k _ (.val ?_));simp only[aT];refine⟨a,a6,?_⟩;rw[bS (by omega),lx,eU _ rfl];simp
 ·rename_i sz hQ z e id off a4 n cE bc gD gl ax ad gF iz;obtain⟨aI,he,ek⟩:=cx h;obtain⟨ag,fv⟩:=fZ ek;simp only[cz]at ag;obtain⟨bT,cw,hB⟩:=ag;cases fv;have bT:=bI bT;have cw:=bI cw;have hB:0+1<=gl:=bI hB;obtain⟨QW,dd,pk⟩:=H.bF (x:=x) (by rw[aK];simp[Op.operands]) ad;obtain⟨si,a4,ba⟩:=H.bF (x:=hi) (by rw[aK];simp[Op.operands]) gF;obtain⟨AI,cn,bR⟩:=H.bF (x:=mx) (by rw[aK];simp[Op.operands]) iz;rw[ba.int]at a4;rw[bR.int]at cn;simp only[aT]at pk;obtain⟨a,a6,bq,rfl⟩:=pk;refine aa5 aK ax he dd a4 cn bT (by omega) (k _ (.val ?_));simp only[aT];refine⟨a,a6,?_⟩;rw[bS (by omega),lx,eU _ rfl];simp
 ·cases h
def ang(ak:∀ d,o.dst=some d->d<X.n){v:aq}(aK:o.op=.unOp .xor t x)(h:RV (dn ao x)=some v)(H:jz D F ao o.op.operands.toList)(k:∀ x,gx D x v->K (put o.dst x F) C I M):gZ X o F C I M K:=by
 unfold RV at h;split at h
 ·rename_i n ad;cases h;obtain⟨u,e,hu⟩:=H.bF (x:=x) (by rw[aK];simp[Op.operands]) ad;rw[hu.int]at e;have q:bB X o F C I M K:=bB.Hr aK ak e (k _ (.val (by simp only[aT])));obtain⟨dst,C2,ty,pos,after,guard⟩:=o;simp only at aK;subst aK;exact q
 ·cases h
def anh(aK:o.op=.slice t x (some lo) (some hi) (some mx))(k:bB X o F C I M K):gZ X o F C I M K:=by
 obtain⟨dst,C2,ty,pos,after,guard⟩:=o;simp only at aK;subst aK;simp only[gZ,cH];split
 ·rename_i e;cases e
 ·rename_i e;cases e
 ·split
  ·rename_i e _;cases e
  ·exact k
 ·exact k
def aa6:Op->Bool
 | .makeMap .. | .lookup .. | .mapUpdate .. | .insert ..=>true| .call { callee:=.builtin .append,.. }=>true| .call { callee:=.builtin .copy,.. }=>true| .call { callee:=.builtin .unsafeString,.. }=>true| _=>false
def AL(aK:o.op=op)(h:aa6 op=true)(k:bB X o F C I M K):gZ X o F C I M K:=by
 obtain⟨dst,C2,ty,pos,after,guard⟩:=o;simp only at aK;subst aK;unfold aa6 at h;split at h<;>first | exact k | cases h
def ani(aQ:cU X.P X.E)(ak:∀ d,o.dst=some d->d<X.n)(h:R4 (dP X G pr) m o ao=some (v,m'))(H:jz D F ao o.op.operands.toList)(hm:c8 (dP X G pr) D m I M)(k:sj X G pr D m I M v m' o.dst F C K):gZ X o F C I M K:=by
 unfold R4 at h;split at h
 ·rename_i t x y aK;exact amO aK h H hm k
 ·rename_i t aK;exact AL aK rfl (aaT aQ ak aK h (by simp) hm k)
 ·rename_i t x aK;split at h
  ·rename_i gl n ad;refine AL aK rfl (aaT aQ ak aK h (λy aH=>?_) hm k);cases aH;obtain⟨u,aJ,a8⟩:=H.bF (x:=x) (by rw[aK];simp[Op.operands]) ad;rw[a8.int]at aJ;exact⟨_,_,aJ⟩
  ·cases h
 ·rename_i t x y ok aK;exact AL aK rfl (amQ aQ ak aK h H hm k)
 ·rename_i t x y z aK;exact AL aK rfl (aaV aQ (.inl aK) h H hm k)
 ·rename_i t x y z aK;exact AL aK rfl (aaV aQ (.inr aK) h H hm k)
 ·rename_i s d x aK;have SO:=amS aQ ak aK h H hm k;obtain⟨dst,C2,ty,pos,after,guard⟩:=o;simp only at aK;subst aK;have qU:∃ a b z,X.E d=some ⟨a,b,z,.string⟩:=by
   unfold Mn at h;split at h;·exact⟨_,_,_,by assumption⟩
   ·exact⟨_,_,_,by assumption⟩
   ·exact⟨_,_,_,by assumption⟩
   ·cases h
  obtain⟨a,b,z,qU⟩:=qU;simp only[gZ,cH,qU];split;·rename_i e _;cases e
  ·exact SO
 ·rename_i b args fT aK;have SP:jz D F ao args.toList:=by rw[aK]at H;simpa[Op.operands,Call.operands]using H
  unfold Z5 at h;split at h;·exact AL aK rfl (ana aQ ak aK h SP hm k)
  ·exact AL aK rfl (amT aQ ak aK h SP hm k)
  ·exact AL aK rfl (anb aQ ak aK h SP hm k)
  ·cases h
 ·cases h
end
def IV(Y:gP)(call:aq->List aq->br->Option (aq×br)):Prop:=∀ f l m v m',call f l m=some (v,m')->∀ (D:bQ) (I:aM) (M:List aE) (u:Value) (us:List Value),aT D f u->bL D l us->c8 Y D m I M -> (∃ g cR cs,u=.func (.func g) cR cs/\Spec Y.P g (cR.toList++us++cs.toList) I M λr I' M'=>∃ bC,D.ext bC m.n/\aT bC v r/\c8 Y bC m' I' M') \/ ∃ q,u=.func (.yield q) #[] #[]/\Ef Y.P q us I M λr I' M'=>∃ bC,D.ext bC m.n/\aT bC v r/\c8 Y bC m' I' M'
def vH(dst:Option Nat)(v:aq)(D:bQ)(F dr:Fr):Prop:=(∀ d,dst=some d->gx D (dr d) v)/\∀ (D:bQ) t vD,dst≠some t->gx D (F t) vD->gx D (dr t) vD
def vH.put{v:aq}{x:dD}(F:Fr)(h:gx D x v):vH dst v D F (put dst x F):=by
 constructor
 ·rintro d rfl;simpa[Go.V.put,ga]using h
 ·intro D t vD bs h;cases dst with
  |none=>exact h| some d=>have:t≠d:=λe=>bs (by rw[e]);simp only[Go.V.put,ga,hE this,b5];exact h
def AE.v(h:AE dst u F dr){v:aq}(ah:aT D v u):vH dst v D F dr:=⟨λd ak=>by rw[h.1 d ak];exact .val ah,h.2⟩
section
variable{X:cV}{G:GT}{pr:mg}{D:bQ}{m m':br}{F:Fr}{ao:be aq}{C:dF}{I:aM}{M:List aE}{K:gm}{o:Oper}{v:aq}
def MO(X:cV)(G:GT)(pr:mg)(o:Oper)(ao:be aq)(m:br)(v:aq)(m':br):Prop:=m.n<=m'.n/\∀ (D:bQ) (F:Fr) (C:dF) (I:aM) (M:List aE) (K:gm),jz D F ao o.op.operands.toList->c8 (dP X G pr) D m I M -> (∀ bC dr C' I' M',D.ext bC m.n->vH o.dst v bC F dr->c8 (dP X G pr) bC m' I' M'->K dr C' I' M')->gZ X o F C I M K
def anj(aK:o.op=op)(ae:lS X.E op=0)(h:cH X op (dq F) C I M (λx=>K (put o.dst x F) C I M) (bB X o F C I M K)):gZ X o F C I M K:=by
 obtain⟨dst,C2,ty,pos,after,guard⟩:=o;simp only at aK;subst aK;cases C2 with
 |call c=>
  obtain⟨callee,args,fT⟩:=c;cases callee with
  |value f=>simp[lS]at ae| invoke r n=>exact h| builtin b=>exact h
 |alloc t=>simp[lS]at ae| box t x=>simp[lS]at ae| store t x y=>simp[lS]at ae| buildSlice t l ps=>simp[lS]at ae| makeSlice t l c=>simp[lS]at ae| _=>exact h
def aa7(aQ:cU X.P X.E)(ak:∀ d,o.dst=some d->d<X.n){v:aq}(ae:lS X.E o.op=0)(h:vx X.P X.E G m.t o.op ao=some v)(H:jz D F ao o.op.operands.toList)(hm:c8 (dP X G pr) D m I M)
  (k:∀ x,gx D x v->K (put o.dst x F) C I M):gZ X o F C I M K:=by
 unfold vx at h;split at h
 ·rename_i t x aK;exact ang ak aK h H k
 ·rename_i t x lo hi mx aK;exact anh aK (ane aQ ak aK h H hm k)
 ·rename_i t x hi mx aK;exact anf aQ ak aK h H hm k
 ·exact anj rfl ae (amC aQ h H hm k)
def SQ{K:be aq->Option R}{r:R}(h:qd dst ao v K=some r):∃ c6,K c6=some r/\(dst=none->c6=ao)/\∀ d,dst=some d->∀ t w,c6.get t=some w->(t=d/\w=v)\/(t≠d/\ao.get t=some w):=by
 unfold qd at h;cases dst with
 |none=>exact⟨ao,h,λ_=>rfl,λd ak=>by cases ak⟩
 |some d=>
  have bc:(RW v λv=>ao.n7 (some v) d K)=some r:=h;rw[alS]at bc;obtain⟨c6,aa,ab⟩:=be.py (some v) ao d;rw[aa]at bc;refine⟨c6,bc,(λe=>by cases e),λgO ak t w hw=>?_⟩;cases ak;rcases ab t w hw with⟨aJ,a4⟩ | ⟨aJ,a4⟩;·exact .inl ⟨aJ,(pA a4).symm⟩
  ·exact .inr ⟨aJ,a4⟩
def aa8(aQ:cU X.P X.E)(kD:∀ d,d<X.n->X.gG.contains d=true)(ak:∀ d,o.dst=some d->d<X.n)(nd:IV (dP X G pr) call){K:be aq->br->Option R}{r:R}
  (h:Ar (dP X G pr) call o ao m K=some r):∃ v m' c6,MO X G pr o ao m v m'/\(qd o.dst ao v λao=>K ao m')=some r/\K c6 m'=some r/\(o.dst=none->c6=ao)/\∀ d,o.dst=some d->∀ t w,c6.get t=some w->(t=d/\w=v)\/(t≠d/\ao.get t=some w):=by
 have fin:∀ {v:aq} {m':br},MO X G pr o ao m v m'->(qd o.dst ao v λao=>K ao m')=some r->∃ v m' c6,MO X G pr o ao m v m'/\(qd o.dst ao v λao=>K ao m')=some r/\K c6 m'=some r/\(o.dst=none->c6=ao)/\∀ d,o.dst=some d->∀ t w,c6.get t=some w->(t=d/\w=v)\/(t≠d/\ao.get t=some w):=fun {v m'} an aB=>by obtain⟨c6,aa,ab,aj⟩:=SQ aB;exact⟨v,m',c6,an,aB,aa,ab,aj⟩
 unfold Ar at h;split at h
 ·
  rename_i f args fT aK;unfold Z6 at h;obtain⟨uv,aA,h⟩:=cx h;obtain⟨l,ay,h⟩:=cx h;obtain⟨⟨v,m'⟩,an,h⟩:=cx h;obtain⟨aC,h⟩:=fZ h;refine fin ⟨bI aC,λD F C I M K s9 hm ae=>?_⟩ h;rw[aK]at s9;obtain⟨u,aJ,a8⟩:=s9.bF (x:=f) (by simp[Op.operands,Call.operands]) aA;obtain⟨us,a4,ba⟩:=s9.m1 (l:=args.toList) (by intro y aH;simp[Op.operands,Call.operands];exact .inr (by simpa using aH)) ay;obtain⟨dst,C2,ty,pos,after,guard⟩:=o;simp only at aK;subst aK;rcases nd _ _ _ _ _ an D I M u us a8 ba hm with⟨g,cR,cs,rfl,au⟩ | ⟨q,rfl,au⟩
  ·simp only[gZ,aJ,a4];exact bd.whole _ au λr I' M' bz ad=>by obtain⟨bC,aa,ab,aj⟩:=ad;exact ae bC _ C I' M' aa (.put F (.val ab)) aj
  ·simp only[gZ,aJ,a4];refine bB.yield rfl ak aJ a4 ⟨M,[],_,by simp,au,λr I' M' bz ad=>?_⟩;obtain⟨bC,aa,ab,aj⟩:=ad;rw[ed];exact ae bC _ C I' M' aa (.put F (.val ab)) aj
 ·rename_i op dN;unfold Z' at h;split at h
  ·rename_i lb;unfold Z8 at h;obtain⟨v,ah,h⟩:=cx h;refine fin ⟨b2 _,λD F C I M K s9 hm ae=>?_⟩ h;exact aa7 aQ ak lb ah s9 hm λx ad=>ae D _ C I M bQ.pC (.put F ad) hm
  ·unfold Z7 at h;obtain⟨d,fu,h⟩:=cx h;obtain⟨⟨l,T,c,mk⟩,a6,h⟩:=cx h;obtain⟨m2,ab,aC,aj⟩:=Sz (Y:=dP X G pr) h;refine fin (v:=mk m.n) (m':=m2) ⟨by omega,λD F C I M K s9 hm ae=>?_⟩ (by rw[fu];exact ab);refine aaJ aQ kD ak a6 (by rw[fu];rfl) s9 λb vs u dr C' bz aA iU c1 an hu HY=>?_;have aG:=aj (vs:=vs) [] (b:=b) (c:=c) hm aA iU (by simpa using c1) an;rw[ed]at aG;exact ae _ dr C' I _ bQ.Ft (HY.v (hu _ _ (bQ.qf _ _ _))) aG
  ·unfold Z9 at h;obtain⟨⟨v,m'⟩,ad,h⟩:=cx h;obtain⟨aC,h⟩:=fZ h;refine fin ⟨bI aC,λD F C I M K s9 hm ae=>?_⟩ h;exact ani aQ ak ad s9 hm λbC u M' aa ab aj=>ae bC _ C I M' aa (.put F (.val ab)) aj
end
def lV(X:cV)(G:GT)(pr:mg)(D0:bQ)(n0:Nat)(ao:be aq)(m:br)(a:Act)(w:World):Prop:=
 ∃ D F C I M,Rel X a w F C I M/\q9 D F ao/\c8 (dP X G pr) D m I M/\D0.ext D n0/\n0<=m.n
section
variable{X:cV}{G:GT}{pr:mg}{D0:bQ}{n0:Nat}{m m':br}{ao c6:be aq}{a:Act}{w:World}
def bQ.aa9{n:Nat}(h:D.ext bC n)(bc:bC.ext MJ h2)(aC:n<=h2):D.ext MJ n:=λi hi=>by rw[bc i (by omega),h i hi]
def ank{ops:Array Oper}{o:Oper}(h:vz ops.toList o ao=some b)(bG:∀ t,e3 β (F t) (a.tmps.getD t undef))(xP:q9 D F ao):Region.wanted o (yielded ops a.tmps)=b:=by
 unfold vz at h;split at h
 ·rename_i av;cases h;simp[Region.wanted,av]
 ·rename_i j c av;split at h
  ·cases h
  ·rename_i d ai;have iC:(ops[j]?).bind (·.dst)=some d:=by rw[Ax]at ai;simpa using ai
   have aH:=GK iC a.tmps;split at h
   ·rename_i q aN;cases h;have au:=xP _ _ aN;have ah:a.tmps.getD d undef=.bool q:=by
     have aa:=bG d;rcases au with⟨u,e,hu⟩ | ⟨eA,cQ,e⟩;·rw[e]at aa;rw[aa,hu.bool]
     ·cases cQ;rw[e]at aa;exact aa
    simp[Region.wanted,av,aH,D5 ah]
   ·rename_i l aN;cases h;have au:=xP _ _ aN;obtain⟨u,e,hu⟩:=au.w2 (by simp);obtain⟨vs,_,rfl⟩:=hu.Sk;have aa:=bG d;rw[e]at aa;have uT:yielded ops a.tmps j=none:=by
     rw[aH];cases kF:a.tmps[d]? with
     |none=>rfl| some v=>simp only[e3,pM,kF,j']at aa;subst aa;rfl
    simp[Region.wanted,av,uT]
   ·cases h
def aba{o:Oper}{K:be aq->Option R}{r:R}(h:CR o ao K=some r):∃ c6,K c6=some r/\(o.dst=none->c6=ao)/\∀ d,o.dst=some d->∀ t w,c6.get t=some w->(t=d/\w=.t [])\/(t≠d/\ao.get t=some w):=by
 unfold CR at h;cases ak:o.dst with
 |none=>rw[ak]at h;exact⟨ao,h,λ_=>rfl,λd e=>by cases e⟩
 |some d=>
  rw[ak]at h;obtain⟨c6,aa,ab⟩:=be.py (some (aq.t [])) ao d;simp only[aa]at h;refine⟨c6,h,(λe=>by cases e),λgO fD t w hw=>?_⟩;cases fD;rcases ab t w hw with⟨aJ,a4⟩ | ⟨aJ,a4⟩;·exact .inl ⟨aJ,(pA a4).symm⟩
  ·exact .inr ⟨aJ,a4⟩
def q9.step{v:aq}(h:q9 D F ao)(bq:D.le bC)(aB:vH dst v bC F dr)(aa:dst=none->c6=ao)(ab:∀ d,dst=some d->∀ t w,c6.get t=some w->(t=d/\w=v)\/(t≠d/\ao.get t=some w)):q9 bC dr c6:=λt u ax=>by
 cases ak:dst with
 |none=>rw[aa ak]at ax;exact aB.2 bC t u (by rw[ak];simp) ((h t u ax).mono bq)
 |some d=>
  rcases ab d ak t u ax with⟨rfl,rfl⟩ | ⟨bs,av⟩;·exact aB.1 _ ak
  ·exact aB.2 bC t u (by rw[ak];intro e;cases e;exact bs rfl) ((h t u av).mono bq)
def SR(aQ:cU X.P X.E)(kD:∀ d,d<X.n->X.gG.contains d=true){call:aq->List aq->br->Option (aq×br)}(nd:IV (dP X G pr) call)(ops:Array Oper)(Q:Exit->Act->World->Prop)(ry:∀ a w,lV X G pr D0 n0 c6 m' a w->Q .normal a w):∀ (l:List Oper) (k:Nat),(∀ j,l[j]?=ops[k+j]?)->(∀ o∈l,∀ d,o.dst=some d->d<X.n)->∀ {ao m a w},Fe (dP X G pr) call ops.toList l ao m=some (c6,m') -> lV X G pr D0 n0 ao m a w->wpOpsIn (g' X) 0 X.P ops Q (List.range' k l.length) a w
 |[],k,_,_,ao,m,a,w,h,au=>by have bc:some (ao,m)=some (c6,m'):=h;cases bc;exact ry _ _ au
 |o::bk,k,ay,ak,ao,m,a,w,h,au=>by
  have az:ops[k]?=some o:=by simpa using(ay 0).symm
  have oh:∀ j,bk[j]?=ops[k+1+j]?:=λj=>by have:=ay (j+1);simpa[tr,DV 1 j]using this
  have fD:∀ o∈bk,∀ d,o.dst=some d->d<X.n:=λo aK=>ak o (by simp[aK]);have zm:=ak o (by simp);have bc:bn (vz ops.toList o ao) none (λw=>b0 w (Ar (dP X G pr) call o ao m λao m=>Fe (dP X G pr) call ops.toList bk ao m) (CR o ao λao=>Fe (dP X G pr) call ops.toList bk ao m))=some (c6,m'):=h;obtain⟨b,ag,bc⟩:=cx bc;obtain⟨D,F,C,I,M,⟨β,aV⟩,bG,hm,ad,aC⟩:=au;have hw:=ank ag aV.ao bG;simp only[c2,Gz,wpOpsIn,az];rw[hw];cases b with
  |true=>have ab:Ar (dP X G pr) call o ao m (λao m=>Fe (dP X G pr) call ops.toList bk ao m)=some (c6,m'):=bc;obtain⟨v,cY,fF,⟨MP,IW⟩,-,aj,a8,ba⟩:=aa8 aQ kD zm nd ab;simp only[pO];refine tq (λbO w'=>?_) (D4 aQ zm ⟨β,aV⟩ (IW D F C I M (λdr C' I' M'=>∃ bC,D.ext bC m.n/\q9 bC dr fF/\c8 (dP X G pr) bC cY I' M') (bG.op _) hm λbC dr C' I' M' aJ a4 cn=>⟨bC,aJ,bG.step (hm.le aJ) a4 a8 ba,cn⟩));rintro⟨dr,C',I',M',e6,bC,aJ,a4,cn⟩;exact SR aQ kD nd ops Q ry bk (k+1) oh fD aj ⟨bC,dr,C',I',M',e6,a4,cn,bQ.aa9 ad aJ aC,jf aC MP⟩
  |false=>have ab:CR o ao (λao=>Fe (dP X G pr) call ops.toList bk ao m)=some (c6,m'):=bc;obtain⟨fF,aj,a8,ba⟩:=aba ab;simp only[lv,l6];refine⟨λ_ _=>trivial,SR aQ kD nd ops Q ry bk (k+1) oh fD aj ⟨D,put o.dst (.val undef) F,C,I,M,⟨β,aV.put (x:=.val undef) zm rfl⟩,bG.step (bQ.le_refl D) (.put F (.val .undef)) a8 ba,hm,ad,aC⟩⟩
end
def anl(a1:∀ j e,m9 ops j e->e<j)(J:(Nat->Prop)->Act->World->Prop)(step:∀ (L:Nat->Prop) a w q o,J L a w->BU ops L->(∀ i,L i->i<ops.length)->ops[q]?=some o->¬ L q->(∀ e,m9 ops q e->L e) -> (Region.wanted o (yielded ops.toArray a.tmps)=true->o.wpIn (g' X) 0 X.P a w (J λj=>L j\/j=q) Q)/\(Region.wanted o (yielded ops.toArray a.tmps)=false->J (λj=>L j\/j=q) (a.put o.dst undef) w))
  (fin:∀ a w,J (λi=>i<ops.length) a w->Q .normal a w):∀ (fb:Nat) (dy:Array Bool) (a:Act) (w:World),dy.size=ops.length->todo ops dy<=fb->BU ops (λi=>dy.getD i false=true) ->
   J (λi=>dy.getD i false=true) a w->wpAnyIn (g' X) 0 X.P .any ops.toArray Q fb dy a w:=by
 have fQ:∀ (dy:Array Bool) (i:Nat),dy.getD i false=true->i<dy.size:=λdy i h=>by refine GW λaC=>?_;simp[Array.getD,aC]at h
 have full:∀ (dy:Array Bool) a w,dy.size=ops.length->Region.ready .any ops.toArray dy=[]->J (λi=>dy.getD i false=true) a w->Q .normal a w:=λdy a w da nV bl=>by
  have all:∀ i,i<ops.length->dy.getD i false=true:=λi=>by
   induction i using Nat.strongRecOn with
   |ind i aF=>
    intro hi;refine GW λaC=>?_;have aK:ops[i]?=some ops[i]:=db hi;have:i∈Region.ready .any ops.toArray dy:=(mem_ready da).2 ⟨_,aK,aC,λe he=>by
     have aa:=a1 i e he;exact aF e aa (by omega)⟩
    rw[nV]at this;cases this
  have e:(λi=>dy.getD i false=true)=λi=>i<ops.length:=by funext i;simp only[eq_iff_iff];exact⟨λh=>by have:=fQ dy i h;omega,all i⟩
  rw[e]at bl;exact fin a w bl
 intro fb
 induction fb with
 |zero=>
  intro dy a w da aA dK bl;have nV:Region.ready .any ops.toArray dy=[]:=by
   cases af:Region.ready .any ops.toArray dy with
   |nil=>rfl| cons i l=>obtain⟨o,aK,aC,_⟩:=(mem_ready da).1 (by rw[af];simp:i∈Region.ready .any ops.toArray dy);have:=KV (ij.1 aK).1 da aC;omega
  exact⟨nV,full dy a w da nV bl⟩
 |succ fb aF=>
  intro dy a w da aA dK bl;refine⟨λnV=>full dy a w da nV bl,λq aN=>?_⟩;obtain⟨o,aK,aC,ak⟩:=(mem_ready da).1 aN;have cq:=(ij.1 aK).1;have g2:=Wq (dy:=dy) (i:=q) (by omega);have next:∀ bO w',J (λj=>dy.getD j false=true\/j=q) bO w'->wpAnyIn (g' X) 0 X.P .any ops.toArray Q fb (dy.setIfInBounds q true) bO w':=λbO w' h=>by
   refine aF _ bO w' (by simpa using da) ?_ ?_ (by rw[g2];exact h);·have:=KV cq da aC;omega
   ·rw[g2];rintro j e (ai | rfl) he
    ·exact .inl (dK j e ai he)
    ·exact .inl (ak e he)
  obtain⟨s1,s2⟩:=step _ a w q o bl dK (λi hi=>by have:=fQ dy i hi;omega) aK aC ak;have G':ops.toArray[q]?=some o:=by simpa using aK
  unfold wpOpIn;simp only[G'];cases hw:Region.wanted o (yielded ops.toArray a.tmps)with
  |true=>
   simp only[pO];exact tq next (s1 hw)
  |false=>simp only[lv,l6];exact⟨λ_ _=>trivial,next _ _ (s2 hw)⟩
def abb{S:List br}{lo hi:Nat}{p:br->Bool}{m:br}(h:Fh S lo hi p=true)(aa:lo<=j)(ab:j<=hi)(ai:S[j]?=some m):p m=true:=by unfold Fh at h;refine fi.1 h m ?_;refine rF (i:=j-lo) ?_;rw[lu,bN (by omega),od,show lo+(j-lo)=j by omega];exact ai
def filter_le{p:α->Bool}:∀ {l:List α},(∀ q e,l[q]?=some e->p e=true->q<j)->(l.filter p).length<=j:=by
 intro l h;have aJ:l.filter p=(l.take j).filter p:=by
  conv=>lhs;rw[<-rY j l]
  rw[yy];have:(l.drop j).filter p=[]:=by rw[St];intro a a6 aB;obtain⟨q,aN⟩:=LX a6;rw[od]at aN;have:=h _ _ aN aB;omega
  rw[this,ed]
 rw[aJ];refine jf (BQ _ _) ?_;simp;omega
def le_filter{p:α->Bool}{l:List α}(ai:j<=l.length)(h:∀ q e,q<j->l[q]?=some e->p e=true):j<=(l.filter p).length:=by
 have aJ:(l.take j).filter p=l.take j:=by
  rw[Sv];intro a a6;obtain⟨q,aN⟩:=LX a6;rw[lu]at aN;split at aN;·exact h q a (by assumption) aN
  ·cases aN
 have a4:l.filter p=(l.take j).filter p++(l.drop j).filter p:=by
  conv=>lhs;rw[<-rY j l]
  rw[yy]
 rw[a4,aJ,b3,hT];omega
mutual
def abc{D:bQ}:∀ {x y:aq} {u:Value},Fg x y=true->aT D x u->aT D y u
 |x,y,u,h,ad=>by
  cases x<;>cases y<;>simp only[Fg,lv,cz]at h
  case b.b=>
   have:=eq_of_beq h;subst this;exact ad
  case i.i=>
   obtain⟨aa,ab⟩:=h;have:=IntKind.D2 aa;subst this;rw[CT,hq]at ab;subst ab;exact ad
  case s.s=>
   rw[Fk,hq]at h;subst h;exact ad
  case pn.pn=>exact ad
  case p.p=>
   obtain⟨aa,ab⟩:=h;have:=dR aa;subst this;have:=dR ab;subst this;exact ad
  case g.g=>
   obtain⟨aa,ab⟩:=h;have:=dR aa;subst this;have:=dR ab;subst this;exact ad
  case sn.sn=>exact ad
  case sl.sl=>
   obtain⟨aa,ab,aj,aG⟩:=h;have:=dR aa;subst this;have:=dR ab;subst this;have:=dR aj;subst this;have:=dR aG;subst this;exact ad
  case sx.sx=>
   obtain⟨aa,ab,aj,aG⟩:=h;have:=dR aa;subst this;have:=dR ab;subst this;have:=dR aj;subst this;have:=dR aG;subst this;exact ad
  case gs.gs=>
   obtain⟨aa,ab,aj,aG⟩:=h;have:=dR aa;subst this;have:=dR ab;subst this;have:=dR aj;subst this;have:=dR aG;subst this;exact ad
  case mn.mn=>exact ad
  case m.m=>have:=dR h;subst this;exact ad
  case f.f=>
   obtain⟨aa,ab,aj⟩:=h;have:=dR aa;subst this;simp only[aT]at ad |-;obtain⟨vs,ws,a8,ba,bR⟩:=ad;exact⟨vs,ws,Fw ab a8,Fw aj ba,bR⟩
  case y.y=>have:=dR h;subst this;exact ad
  case fn.fn=>exact ad
  case ni.ni=>exact ad
  case t.t=>
   simp only[aT]at ad |-;obtain⟨vs,a8,ba⟩:=ad;exact⟨vs,Fw h a8,ba⟩
  case a.a=>
   simp only[aT]at ad |-;obtain⟨vs,a8,ba⟩:=ad;exact⟨vs,Fw h a8,ba⟩
def Fw{D:bQ}:∀ {x y:List aq} {us:List Value},w1 x y=true->bL D x us->bL D y us
 |[],[],us,h,ad=>ad| [],_::_,us,h,ad=>by simp[w1]at h
 |_::_,[],us,h,ad=>by simp[w1]at h
 |x::l,y::m,us,h,ad=>by simp only[w1,cz]at h;obtain⟨u,us,a8,ba,rfl⟩:=ad.kU;exact .cons (abc h.1 a8) (Fw h.2 ba)
end
def IX(dst:Option Nat)(ao:be aq)(v:aq)(c6:be aq):Prop:=(dst=none->c6=ao)/\∀ d,dst=some d->∀ t w,c6.get t=some w->(t=d/\w=v)\/(t≠d/\ao.get t=some w)
def MQ(m m':br)(l:List aq)(T:Nat):Prop:=m'.n=m.n+1/\(∀ id e,m'.t.get id=some e->id=m.n\/m.t.get id=some e)
def yM(m m':br):Prop:=m.n<=m'.n/\∀ id e,id<m.n->m'.t.get id=some e->m.t.get id=some e
def yM.refl(m:br):yM m m:=⟨b2 _,λ_ _ _ h=>h⟩
def yM.trans{a b c:br}(h:yM a b)(k:yM b c):yM a c:=⟨jf h.1 k.1,λid e hi he=>h.2 id e hi (k.2 id e (Kr hi h.1) he)⟩
def MQ.grow{m m':br}{l:List aq}{T:Nat}(h:MQ m m' l T):yM m m':=⟨by rw[h.1];omega,λid e hi he=>by
 rcases h.2 id e he with aa | aa
 ·omega
 ·exact aa⟩
def anm{m:br}{l:List aq}{T:Nat}{K:Nat->br->Option R}{r:R}(h:vy m l T K=some r):∃ m',K m.n m'=some r/\MQ m m' l T:=by unfold vy at h;obtain⟨cs,aa,ab⟩:=be.yG l (.nil:be aq) 0;rw[aa]at h;obtain⟨bo,aj,aG⟩:=IQ h;exact⟨_,aG,rfl,λid e hi=>(aj id e hi).imp (λq=>q.1) λq=>q.2⟩
def c8.grow{m m':br}(h:c8 Y D m I M)(av:yM m m'):c8 Y D m' I M where
 jb id e a aa ab:=h.jb id e a (av.2 id e (h.j5 _ _ ab) aa) ab
 inj id jc e cQ a bO aa tO ab ma ag:=h.inj id jc e cQ a bO (av.2 id e (h.j5 _ _ ab) aa) (av.2 jc cQ (h.j5 _ _ ma) tO) ab ma ag
 j5 id a ab:=Kr (h.j5 _ _ ab) av.1
 q8:=h.q8
inductive mj(X:cV)(G:GT)(pr:mg)(ops:List Oper):List (Nat×Nat)->be aq->br->List (Nat×aq)->be aq->br->List br->List q7->Prop
 |nil{ao m}:mj X G pr ops [] ao m [] ao m [m] []| q {i o bk ao m v c6 vs g7 gQ S A} (aK:ops[i]?=some o) (ae:lS X.E o.op=0) (hw:vz ops o ao=some true) (ah:vx X.P X.E G m.t o.op ao=some v) (aB:IX o.dst ao v c6) (t:mj X G pr ops bk c6 m vs g7 gQ S A) : mj X G pr ops ((i,0)::bk) ao m ((i,v)::vs) g7 gQ S (bif qC o.op then .load i o ao v::A else A)| a {i o d bk ao m m' l T c mk c6 vs g7 gQ S A} (aK:ops[i]?=some o) (ae:lS X.E o.op=1) (hw:vz ops o ao=some true) (ak:o.dst=some d) (ah:CQ X.E o ao=some (l,T,c,mk)) (aC:MQ m m' l T) (aB:IX o.dst ao (mk m.n) c6) (t:mj X G pr ops bk c6 m' vs g7 gQ S A) : mj X G pr ops ((i,1)::bk) ao m ((i,mk m.n)::vs) g7 gQ S (.made i m.n l T::A)| e {i o bk ao m m' v c6 vs g7 gQ S A} (aK:ops[i]?=some o) (ae:lS X.E o.op=2) (hw:vz ops o ao=some true) (an:MO X G pr o ao m v m') (aB:IX o.dst ao v c6) (t:mj X G pr ops bk c6 m' vs g7 gQ S A) : mj X G pr ops ((i,2)::bk) ao m ((i,v)::vs) g7 gQ (m::S) A| skip {i k o bk ao m c6 vs g7 gQ S A} (aK:ops[i]?=some o) (ae:lS X.E o.op=k) (hw:vz ops o ao=some false) (aB:IX o.dst ao (.t []) c6) (t:mj X G pr ops bk c6 m vs g7 gQ S A) : mj X G pr ops ((i,k)::bk) ao m ((i,.t [])::vs) g7 gQ (bif Nat.beq k 2 then m::S else S) A
section
variable{X:cV}{G:GT}{pr:mg}{ops:List Oper}
def IY(aQ:cU X.P X.E)(kD:∀ d,d<X.n->X.gG.contains d=true)(hs:∀ o∈ops,∀ d,o.dst=some d->d<X.n){call:aq->List aq->br->Option (aq×br)}(nd:IV (dP X G pr) call):∀ (row:List (Nat×Nat)) {ao:be aq} {m:br} {mR:List br} {oE:List q7} {g7:be aq} {gQ:br} {kr:List br} {n':List q7},px (dP X G pr) call ops row ao m mR oE=some (g7,gQ,kr,n')->∃ vs S A,mj X G pr ops row ao m vs g7 gQ S A/\kr=S.reverse++mR/\(∀ h∈A,h∈n')/\∀ h∈oE,h∈n'
 |[],ao,m,mR,oE,g7,gQ,kr,n',h=>by simp only[px,j9,Lw]at h;obtain⟨rfl,rfl,rfl,rfl⟩:=h;exact⟨[],[m],[],.nil,by simp,by simp,λ_ h=>h⟩
 |(i,k)::bk,ao,m,mR,oE,g7,gQ,kr,n',h=>by
  simp only[px]at h;obtain⟨o,aK,h⟩:=cx h;obtain⟨w,hw,h⟩:=cx h;obtain⟨ae,h⟩:=fZ h;rw[Ax]at aK;have hg:lS X.E o.op=k:=dR ae;have zm:=hs o (rF aK);cases w with
  |false=>
   have ab:CR o ao (λao=>px (dP X G pr) call ops bk ao m (b0 (Nat.beq k 2) (m::mR) mR) oE)=some (g7,gQ,kr,n'):=h;obtain⟨fF,aj,a8,ba⟩:=aba ab;obtain⟨vs,S,A,ax,cB,dv,vI⟩:=IY aQ kD hs nd bk aj;refine⟨_,_,_,.skip aK hg hw ⟨a8,ba⟩ ax,?_,dv,vI⟩;rw[cB];cases Nat.beq k 2<;>simp[b0]
  |true=>
   have aa:b0 (Nat.beq k 0) (bn (vx X.P X.E G m.t o.op ao) none λv=>qd o.dst ao v λc6=>px (dP X G pr) call ops bk c6 m mR (b0 (qC o.op) (.load i o ao v::oE) oE)) (b0 (Nat.beq k 1) (bn o.dst none λd=>bn (CQ X.E o ao) none λr=>vy m r.1 r.2.1 λid m=>qd (some d) ao (r.2.2.2 id) λao=>px (dP X G pr) call ops bk ao m mR (.made i id r.1 r.2.1::oE)) (Ar (dP X G pr) call o ao m λao m'=>px (dP X G pr) call ops bk ao m' (m::mR) oE))=some (g7,gQ,kr,n'):=h;by_cases Ac:k=0
   ·subst Ac;have ab:(bn (vx X.P X.E G m.t o.op ao) none λv=>qd o.dst ao v λc6=>px (dP X G pr) call ops bk c6 m mR (b0 (qC o.op) (.load i o ao v::oE) oE))=some (g7,gQ,kr,n'):=aa;obtain⟨v,ah,ab⟩:=cx ab;obtain⟨fF,aj,a8,ba⟩:=SQ ab;obtain⟨vs,S,A,ax,cB,dv,vI⟩:=IY aQ kD hs nd bk aj;refine⟨_,_,_,.q aK hg hw ah ⟨a8,ba⟩ ax,cB,λy aH=>?_,λy aH=>vI y ?_⟩
    ·cases ay:qC o.op with
     |false=>rw[ay]at aH;exact dv y aH
     |true=>
      rw[ay]at aH;rcases eg.1 aH with rfl | aH;·refine vI _ ?_;rw[ay];simp[b0]
      ·exact dv y aH
    ·cases qC o.op with
     |false=>exact aH| true=>exact n9 _ aH
   rw[hE Ac]at aa;by_cases en:k=1
   ·subst en;have ab:(bn o.dst none λd=>bn (CQ X.E o ao) none λr=>vy m r.1 r.2.1 λid m=>qd (some d) ao (r.2.2.2 id) λao=>px (dP X G pr) call ops bk ao m mR (.made i id r.1 r.2.1::oE))=some (g7,gQ,kr,n'):=aa;obtain⟨d,ak,ab⟩:=cx ab;obtain⟨⟨l,T,c,mk⟩,a6,ab⟩:=cx ab;obtain⟨m2,aj,aC⟩:=anm ab;have pg:qd o.dst ao (mk m.n) (λao=>px (dP X G pr) call ops bk ao m2 mR (.made i m.n l T::oE))=some (g7,gQ,kr,n'):=by rw[ak];exact aj
    obtain⟨fF,aG,a8,ba⟩:=SQ pg;obtain⟨vs,S,A,ax,cB,dv,vI⟩:=IY aQ kD hs nd bk aG;refine⟨_,_,_,.a aK hg hw ak a6 aC ⟨a8,ba⟩ ax,cB,λy aH=>?_,λy aH=>vI y (n9 _ aH)⟩;rcases eg.1 aH with rfl | aH;·exact vI _ (by simp)
    ·exact dv y aH
   ·rw[hE en]at aa;have ab:Ar (dP X G pr) call o ao m (λao m'=>px (dP X G pr) call ops bk ao m' (m::mR) oE)=some (g7,gQ,kr,n'):=aa;obtain⟨v,cY,fF,IW,-,aj,a8,ba⟩:=aa8 aQ kD zm nd ab;obtain⟨vs,S,A,ax,cB,dv,vI⟩:=IY aQ kD hs nd bk aj;have eS:k=2:=by
     have:lS X.E o.op<=2:=by
      unfold lS;split<;>first | omega | (split<;>first | omega | (split<;>omega))
     rw[hg]at this;omega
    subst eS;exact⟨_,_,_,.e aK hg hw IW ⟨a8,ba⟩ ax,by rw[cB];simp,dv,vI⟩
def mj.head{ao g7:be aq}{m gQ:br}{vs:List (Nat×aq)}{S:List br}{A:List q7}(h:mj X G pr ops row ao m vs g7 gQ S A):∃ m2 kr,S=m2::kr/\yM m m2:=by
 induction h with
 |nil=>exact⟨_,_,rfl,.refl _⟩| q _ _ _ _ _ _ aF=>exact aF| a _ _ _ _ _ aC _ _ aF=>obtain⟨m2,kr,aa,ab⟩:=aF;exact⟨m2,kr,aa,aC.grow.trans ab⟩
 |e _ _ _ _ _ _ _=>exact⟨_,_,rfl,.refl _⟩
 | @skip i k o bk ao m c6 vs g7 gQ S A _ _ _ _ _ aF=>
  cases ae:Nat.beq k 2 with
  |true=>exact⟨_,_,rfl,.refl _⟩| false=>simpa using aF
def mj.MR{ao g7:be aq}{m gQ:br}{vs:List (Nat×aq)}{S:List br}{A:List q7}(h:mj X G pr ops row ao m vs g7 gQ S A):m.n<=gQ.n/\∀ i c l T,.made i c l T∈A->m.n<=c/\i∈row.map (·.1):=by
 induction h with
 |nil=>exact⟨b2 _,λ_ _ _ _ h=>by cases h⟩
 | @q i o bk ao m v c6 vs g7 gQ S A _ _ _ _ _ _ aF=>
  refine⟨aF.1,λgX c l T hm=>?_⟩;have sI:.made gX c l T∈A:=by
   cases ay:qC o.op with
   |false=>rw[ay]at hm;exact hm
   |true=>
    rw[ay]at hm;rcases eg.1 hm with e | hm;·cases e
    ·exact hm
  exact⟨(aF.2 gX c l T sI).1,n9 _ (aF.2 gX c l T sI).2⟩
 |a _ _ _ _ _ aC _ _ aF=>
  refine⟨jf aC.grow.1 aF.1,λgX c l T hm=>?_⟩;rcases eg.1 hm with e | hm;·cases e;exact⟨b2 _,by simp⟩
  ·exact⟨jf aC.grow.1 (aF.2 gX c l T hm).1,n9 _ (aF.2 gX c l T hm).2⟩
 |e _ _ _ an _ _ aF=>exact⟨jf an.1 aF.1,λgX c l T hm=>⟨jf an.1 (aF.2 gX c l T hm).1,n9 _ (aF.2 gX c l T hm).2⟩⟩| skip _ _ _ _ _ aF=>exact⟨aF.1,λgX c l T hm=>⟨(aF.2 gX c l T hm).1,n9 _ (aF.2 gX c l T hm).2⟩⟩
def mj.split:∀ (a9:List (Nat×Nat)) {bk:List (Nat×Nat)} {ao g7:be aq} {m gQ:br} {vs:List (Nat×aq)} {S:List br} {A:List q7},mj X G pr ops (a9++bk) ao m vs g7 gQ S A -> ∃ xd yN fF cY vJ yO xe,vs=xd++yN/\xd.map (·.1)=a9.map (·.1)/\S=vJ++yO/\vJ.length=(a9.filter λr=>Nat.beq r.2 2).length/\mj X G pr ops bk fF cY yN g7 gQ yO xe/\(∀ h∈xe,h∈A)/\m.n<=cY.n /\ (∀ t w,fF.get t=some w->(∃ i,(i,w)∈xd/\jl ops i=some t)\/((∀ i∈a9.map (·.1),jl ops i≠some t)/\ao.get t=some w)) /\ (∀ i c l T,.made i c l T∈A->.made i c l T∈xe\/c<cY.n)
 |[],bk,ao,g7,m,gQ,vs,S,A,h=>⟨[],vs,ao,m,[],S,A,rfl,rfl,rfl,rfl,h,λ_ h=>h,b2 _,λt w hw=>.inr ⟨by simp,hw⟩,λ_ _ _ _ h=>.inl h⟩
 |(i,k)::a9,bk,ao,g7,m,gQ,vs,S,A,h=>by
  have fin:∀ {o:Oper} {c6:be aq} {m':br} {v:aq} {tv:List (Nat×aq)} {kr S:List br} {n' A:List q7},ops[i]?=some o->IX o.dst ao v c6->m.n<=m'.n->mj X G pr ops (a9++bk) c6 m' tv g7 gQ kr n' -> (S=if Nat.beq k 2 then m::kr else kr)->(∀ h∈n',h∈A)->(∀ i c l T,.made i c l T∈A->.made i c l T∈n'\/c<m'.n) ->
    ∃ xd yN fF cY vJ yO xe,(i,v)::tv=xd++yN/\xd.map (·.1)=((i,k)::a9).map (·.1)/\S=vJ++yO/\vJ.length=(((i,k)::a9).filter λr=>Nat.beq r.2 2).length/\mj X G pr ops bk fF cY yN g7 gQ yO xe/\(∀ h∈xe,h∈A)/\m.n<=cY.n /\ (∀ t w,fF.get t=some w->(∃ i,(i,w)∈xd/\jl ops i=some t)\/((∀ gX∈((i,k)::a9).map (·.1),jl ops gX≠some t)/\ao.get t=some w)) /\
     (∀ i c l T,.made i c l T∈A->.made i c l T∈xe\/c<cY.n):=by
   intro o c6 m' v tv kr S n' A aK aB MP ax cB dv ann;obtain⟨xd,yN,fF,cY,vJ,yO,xe,aJ,a4,cn,dc,jX,kt,AM,IZ,xf⟩:=mj.split a9 ax;refine⟨(i,v)::xd,yN,fF,cY,(if Nat.beq k 2 then m::vJ else vJ),yO,xe,by rw[aJ];rfl,by simp[a4],?_,?_,jX,λh cW=>dv h (kt h cW),jf MP AM,λt w hw=>?_,λi c l T hm=>?_⟩
   ·rw[cB,cn];split<;>simp
   ·simp only[o0];split<;>simp[dc]
   ·rcases IZ t w hw with⟨gX,aa,ab⟩ | ⟨aa,ab⟩
    ·exact .inl ⟨gX,n9 _ aa,ab⟩
    ·have qF:jl ops i=o.dst:=by simp[jl,aK]
     cases ak:o.dst with
     |none=>
      rw[aB.1 ak]at ab;refine .inr ⟨λgX cZ=>?_,ab⟩;rcases eg.1 cZ with e | cZ;·rw[show gX=i from e,qF,ak];simp
      ·exact aa gX cZ
     |some d=>
      rcases aB.2 d ak t w ab with⟨rfl,rfl⟩ | ⟨bs,aj⟩;·exact .inl ⟨i,by simp,by rw[qF,ak]⟩
      ·refine .inr ⟨λgX cZ=>?_,aj⟩;rcases eg.1 cZ with e | cZ
       ·rw[show gX=i from e,qF,ak];exact λe=>bs (by cases e;rfl)
       ·exact aa gX cZ
   ·rcases ann i c l T hm with aa | aa
    ·exact xf i c l T aa
    ·exact .inr (Kr aa AM)
  cases h with
  |q aK ae hw ah aB t=>
   rename_i o v c6 tv n';refine fin aK aB (b2 _) t (by simp) (λh cW=>?_) λi c l T hm=>?_
   ·cases qC o.op with
    |false=>exact cW| true=>exact n9 _ cW
   ·cases ay:qC o.op with
    |false=>rw[ay]at hm;exact .inl hm
    |true=>
     rw[ay]at hm;rcases eg.1 hm with e | hm;·cases e
     ·exact .inl hm
  |a aK ae hw ak ah aC aB t=>
   refine fin aK aB aC.grow.1 t (by simp) (λh cW=>n9 _ cW) λi c l T hm=>?_;rcases eg.1 hm with e | hm;·cases e;exact .inr (by rw[aC.1];omega)
   ·exact .inl hm
  |e aK ae hw an aB t=>exact fin aK aB an.1 t (by simp) (λ_ h=>h) λ_ _ _ _ h=>.inl h
  |skip aK ae hw aB t=>exact fin aK aB (b2 _) t (by cases Nat.beq k 2<;>rfl) (λ_ h=>h) λ_ _ _ _ h=>.inl h
end
section
variable{ops:List Oper}
def ano{i k:Nat}{o:Oper}(aK:ops[i]?=some o)(h:G2 o k=true):∀ e,m9 ops i e->k.testBit e=true:=by rintro e⟨o',nT,rN,rK,ag,rfl⟩;rw[aK]at rN;cases rN;have:=fi.1 h nT (by simpa using rK);rw[ag]at this;simpa using this
def MS:∀ {row:List (Nat×Nat)} {k:Nat},w0 ops row k=true->∀ (a9:List (Nat×Nat)) (i c:Nat) (post:List (Nat×Nat)),row=a9++(i,c)::post -> (∃ o,ops[i]?=some o)/\k.testBit i=false/\i ∉ a9.map (·.1)/\∀ e,m9 ops i e->k.testBit e=true\/e∈a9.map (·.1)
 |[],k,h,a9,i,c,post,e=>by simp at e
 |(i0,ud)::row,k,h,a9,i,c,post,e=>by
  simp only[w0,cz,tC]at h;obtain⟨aa,ab⟩:=h;split at ab
  ·rename_i o aK;rw[cz]at ab;cases a9 with
   |nil=>simp only[iF,ya,Lw]at e;obtain⟨⟨rfl,rfl⟩,rfl⟩:=e;exact⟨⟨o,aK⟩,aa,by simp,λe he=>.inl (ano aK ab.1 e he)⟩
   |cons p a9=>
    simp only[mF,ya]at e;obtain⟨aJ,a4⟩:=e;obtain⟨a8,ba,bR,fq⟩:=MS ab.2 a9 i c post a4;have ag:∀ x,(k ||| 2^i0).testBit x=(k.testBit x||decide (x=i0)):=λx=>by rw[KL,KK];congr 1;exact decide_eq_decide.2 eq_comm
    rw[ag,qN]at ba;refine⟨a8,ba.1,?_,λe he=>?_⟩;·rw[<-aJ];simp only[bX,eg,not_or];exact⟨by simpa using ba.2,bR⟩
    ·rcases fq e he with h | h
     ·rw[ag,k6]at h;rcases h with h | h
      ·exact .inl h
      ·exact .inr (by rw[<-aJ];simp at h;simp[h])
     ·exact .inr (by rw[bX];exact n9 _ h)
  ·cases ab
def SS:∀ {row:List (Nat×Nat)} {k:Nat},w0 ops row k=true->∀ i,i<ops.length->k.testBit i=true\/i∈row.map (·.1)
 |[],k,h,i,hi=>by
  simp only[w0]at h;have:=dR h;subst this
  left
  rw[Nat.testBit_two_pow_sub_one];simpa using hi
 |(i0,ud)::row,k,h,i,hi=>by
  simp only[w0,cz,tC]at h;obtain⟨aa,ab⟩:=h;split at ab
  ·rw[cz]at ab;rcases SS ab.2 i hi with h | h
   ·rw[KL,KK,k6]at h;rcases h with h | h
    ·exact .inl h
    ·have:i0=i:=by simpa using h
     exact .inr (by simp[this])
   ·exact .inr (by rw[bX];exact n9 _ h)
  ·cases ab
def anp(h:w0 ops row 0=true):(row.map (·.1)).Nodup:=by
 have key:∀ {row:List (Nat×Nat)} {k:Nat},w0 ops row k=true->(row.map (·.1)).Nodup:=by
  intro row
  induction row with
  |nil=>intro k _;exact DU
  |cons r row aF=>
   intro k h;obtain⟨i0,ud⟩:=r;have bc:=h;simp only[w0,cz,tC]at h;obtain⟨aa,ab⟩:=h;split at ab;·rw[cz]at ab;rw[bX,l5];refine⟨λhm=>?_,aF ab.2⟩;obtain⟨⟨x,c⟩,ad,I0⟩:=cA.1 hm;obtain⟨a9,post,e⟩:=vC ad;have SU:x=i0:=I0;subst SU;have:=(MS bc ((x,ud)::a9) x c post (by rw[e];rfl)).2.2.1;exact this (by simp)
   ·cases ab
 exact key h
def abd{α β:Type}:∀ {l:List (α×β)},(l.map (·.1)).Nodup->∀ {k:α} {a b:β},(k,a)∈l->(k,b)∈l->a=b
 |[],_,k,a,b,h,_=>by cases h
 |(Ac,c)::l,aC,k,a,b,h,bc=>by
  rw[bX,l5]at aC;rcases eg.1 h with e | h
  ·cases e;rcases eg.1 bc with cQ | bc
   ·cases cQ;rfl
   ·exact(aC.1 (cA.2 ⟨_,bc,rfl⟩)).elim
  ·rcases eg.1 bc with cQ | bc
   ·cases cQ;exact(aC.1 (cA.2 ⟨_,h,rfl⟩)).elim
   ·exact abd aC.2 h bc
end
section
variable{X:cV}{G:GT}{pr:mg}{D0:bQ}{n0:Nat}{a:Act}{w:World}
def MT{o:Oper}{ao:be aq}(h:vz ops o ao=some b)(bG:∀ t,e3 β (F t) (a.tmps.getD t undef))(H:∀ t∈looks ops o,∀ v,ao.get t=some v->gx D (F t) v) :
  Region.wanted o (yielded ops.toArray a.tmps)=b:=by
 unfold vz at h;split at h
 ·rename_i av;cases h;simp[Region.wanted,av]
 ·rename_i j c av;split at h
  ·cases h
  ·rename_i d ai;have iC:(ops[j]?).bind (·.dst)=some d:=by rw[Ax]at ai;simpa using ai
   have anq:(ops.toArray[j]?).bind (·.dst)=some d:=by simpa using iC
   have aH:=GK anq a.tmps;have kG:d∈looks ops o:=Pp av iC;split at h
   ·rename_i q aN;cases h;have au:=H _ kG _ aN;have ah:a.tmps.getD d undef=.bool q:=by
     have aa:=bG d;rcases au with⟨u,e,hu⟩ | ⟨eA,cQ,e⟩;·rw[e]at aa;rw[aa,hu.bool]
     ·cases cQ;rw[e]at aa;exact aa
    simp[Region.wanted,av,aH,D5 ah]
   ·rename_i l aN;cases h;have au:=H _ kG _ aN;obtain⟨u,e,hu⟩:=au.w2 (by simp);obtain⟨vs,_,rfl⟩:=hu.Sk;have aa:=bG d;rw[e]at aa;have uT:yielded ops.toArray a.tmps j=none:=by
     rw[aH];cases kF:a.tmps[d]? with
     |none=>rfl| some v=>simp only[e3,pM,kF,j']at aa;subst aa;rfl
    simp[Region.wanted,av,uT]
   ·cases h
def anr{o:Oper}{ao:be aq}(H:∀ t∈looks ops o,∀ v,ao.get t=some v->gx D (F t) v):jz D F ao o.op.operands.toList:=λx ad v ah=>by
 cases x with
 |tmp t=>exact H t (Pq (by simpa using ad)) v ah| const c=>exact(show q9 D F .nil from λt v h=>by cases h).op [.const c] (.const c) (by simp) v ah| global g=>exact(show q9 D F .nil from λt v h=>by cases h).op [.global g] (.global g) (by simp) v ah| func f=>exact(show q9 D F .nil from λt v h=>by cases h).op [.func f] (.func f) (by simp) v ah
def ans{m m2:be fP}{ao:be aq}(h:qC op=false):vx X.P X.E G m op ao=vx X.P X.E G m2 op ao:=by
 cases op with
 |load=>simp[qC]at h| slice t x lo hi mx=>cases mx<;>cases lo<;>cases hi<;>rfl
 |unOp u=>cases u<;>rfl
 |call c=>
  obtain⟨callee,args,fT⟩:=c;cases callee<;>rfl
 |_=>rfl
def Fx(X:cV)(G:GT)(pr:mg)(D0:bQ)(n0:Nat)(ops:List Oper)(es:List Nat)(ao:be aq)(vs:List (Nat×aq))(S:List br)(A:List q7)(L:Nat->Prop)(a:Act)(w:World):Prop:=
 ∃ D F C I M j sm,Rel X a w F C I M/\(∀ q e,es[q]?=some e->(L e ↔ q<j))/\j<=es.length/\S[j]?=some sm/\c8 (dP X G pr) D sm I M/\(∀ i v t,L i->(i,v)∈vs->jl ops i=some t->gx D (F t) v) /\ (∀ t v,(∀ i,L i->jl ops i≠some t)->ao.get t=some v->gx D (F t) v)/\(∀ i c l T,q7.made i c l T∈A->¬ L i->D c=none)/\D0.ext D n0
def Fx.ao(dk:wz ops){L:Nat->Prop}{q:Nat}{o:Oper}(aN:ops[q]?=some o)(rM:¬ L q){vs:List (Nat×aq)}(Fy:(vs.map (·.1)).Nodup){v:aq}(ah:(q,v)∈vs){ao:be aq}(bq:D.le bC)(aB:vH o.dst v bC F dr)(dv:∀ i v t,L i->(i,v)∈vs->jl ops i=some t->gx D (F t) v)(ant:∀ t v,(∀ i,L i->jl ops i≠some t)->ao.get t=some v->gx D (F t) v) :
  (∀ i v t,(L i\/i=q)->(i,v)∈vs->jl ops i=some t->gx bC (dr t) v)/\(∀ t v,(∀ i,(L i\/i=q)->jl ops i≠some t)->ao.get t=some v->gx bC (dr t) v):=by
 have I2:jl ops q=o.dst:=by simp[jl,aN]
 constructor
 ·rintro i u t (hi | rfl) hm ak
  ·have bs:o.dst≠some t:=λe=>by obtain⟨gI,ir,qF⟩:=G8 ak;exact dk.Po i q gI o t (λcQ=>rM (cQ ▸ hi)) ir aN qF e
   exact aB.2 bC t u bs ((dv i u t hi hm ak).mono bq)
  ·rw[abd Fy hm ah];rw[I2]at ak;exact aB.1 t ak
 ·intro t u dN av;have bs:o.dst≠some t:=λe=>dN q (.inr rfl) (by rw[I2,e]);exact aB.2 bC t u bs ((ant t u (λi hi=>dN i (.inl hi)) av).mono bq)
end
section
variable{X:cV}{G:GT}{pr:mg}{D0:bQ}{n0:Nat}{a:Act}{w:World}
def SV{g1:List Nat}:∀ {es:List Nat},Mo g1 es=true->∀ (p q:Nat) (x y:Nat),p<q->es[p]?=some x->es[q]?=some y->(g1.getD y 0).testBit x=true
 |[],_,p,q,x,y,_,ad,_=>by simp at ad
 |e::es,h,p,q,x,y,nb,ad,aH=>by
  simp only[Mo,cz]at h;cases q with
  |zero=>omega
  |succ q=>
   have tx:es[q]?=some y:=by simpa using aH
   cases p with
   |zero=>simp at ad;subst ad;exact fi.1 h.1 y (rF tx)| succ p=>exact SV h.2 p q x y (by omega) (by simpa using ad) tx
def anu:e∈yF E ops ↔ e<ops.length/\CS E ops e=2:=by
 unfold yF;rw[iE,g8];constructor
 ·rintro⟨aa,ab⟩;exact⟨aa,dR ab⟩
 ·rintro⟨aa,ab⟩;exact⟨aa,by rw[ab];rfl⟩
def abe{i:Nat}{o:Oper}(h:ops[i]?=some o):CS E ops i=lS E o.op:=by unfold CS;rw[Ax,h];rfl
def gx.same{x:dD}{u v:aq}(h:gx D x u)(au:Fg u v=true):gx D x v:=by
 rcases h with⟨y,rfl,h⟩ | ⟨q,rfl,rfl⟩
 ·exact .val (abc au h)
 ·have:v=.b q:=by
   cases v<;>simp only[Fg,lv]at au
   rw[eq_of_beq au]
  exact .inr ⟨q,this,rfl⟩
def anv(aQ:cU X.P X.E)(kD:∀ d,d<X.n->X.gG.contains d=true)(nd:IV (dP X G pr) call){id:Nat}{I3:Array Oper}(iz:X.P.follows .mixedOrders=true)(aC:xW X.n I3=true)
  {ao g7:be aq} {m gQ:br} (h:R8 (dP X G pr) call I3.toList ao m=some (g7,gQ)) (ry:∀ a w,lV X G pr D0 n0 g7 gQ a w->Q .normal a w) (au:lV X G pr D0 n0 ao m a w) :
  (Code.region id I3 true).wpIn (g' X) 0 X.P Q a w:=by
 refine wpIn_region_any iz ?_;generalize wy:I3.toList=ops at h;have anw:I3=ops.toArray:=by apply gY;simpa using wy
 subst anw;have hs:∀ o∈ops,∀ d,o.dst=some d->d<X.n:=by simpa using KB aC
 unfold R8 at h;obtain⟨yp,h⟩:=fZ h;unfold aac at yp;simp only[cz]at yp;obtain⟨anx,mQ,abf,p6⟩:=yp;have dk:wz ops:=Wj anx;have abg:((IC X.E ops).filter λr=>Nat.beq r.2 2).map (·.1)=yF X.E ops:=by simpa using p6
 clear p6;generalize kI:yF X.E ops=es at *;have SW:∀ e,e∈es ↔ e<ops.length/\CS X.E ops e=2:=λe=>by rw[<-kI];exact anu
 generalize I4:IC X.E ops=row at *;cases ku:px (dP X G pr) call ops row ao m [] []with
 |none=>rw[ku]at h;cases h| some anz=>
 obtain⟨anA,anB,kr,n'⟩:=anz;rw[ku]at h;have bc:b0 (n'.all (R7 (dP X G pr) es (lD ops) kr.reverse)) (some (anA,anB)) none=some (g7,gQ):=h;clear h;obtain⟨abh,bc⟩:=fZ bc;cases bc;obtain⟨vs,S,A,MU,MV,anC,-⟩:=IY aQ kD hs nd row ku;rw[ed]at MV;subst MV;rw[Su]at abh;have abi:∀ y∈A,R7 (dP X G pr) es (lD ops) S y=true:=λy aH=>fi.1 abh y (anC y aH);have hy:(row.map (·.1)).Nodup:=anp mQ;obtain⟨awX,awY,awZ,aw0,aw1,aw2,aw3,h8,kH,mB,iX,HT,aw4,anD,anE,aw5⟩:=mj.split row (bk:=[]) (by rw[ed];exact MU);have anF:(row.filter λr=>Nat.beq r.2 2).length=es.length:=by rw[<-abg,bE]
 cases HT;rw[ed]at h8;subst h8;have Fy:(vs.map (·.1)).Nodup:=by rw[kH];exact hy
 have anG:=MU.MR;have anH:∀ (a9:List (Nat×Nat)) (bk:List (Nat×Nat)),row=a9++bk->BU ops (λi=>i∈a9.map (·.1)):=λa9 bk lW j e ai he=>by
  obtain⟨⟨x,c⟩,ad,I0⟩:=cA.1 ai;have SU:x=j:=I0;subst SU;obtain⟨tT,yf,aJ⟩:=vC ad;rcases(MS mQ tT x c (yf++bk) (by rw[lW,aJ];simp)).2.2.2 e he with h | h;·simp at h
  ·show e∈a9.map (·.1);rw[aJ,cP];exact cF.2 (.inl h)
 let J:=Fx X G pr D0 n0 ops es ao vs S A
 have key:=anl (X:=X) (ops:=ops) (Q:=Q) dk.lt J ?step ?fin ops.length (Array.replicate ops.length false) a { w with drawn:=w.drawn+1 } (by simp) (by unfold todo;exact jf (BQ _ _) (by simp)) ?cl ?start
 case cl=>
  intro j e ai;exfalso;by_cases hi:j<ops.length<;>simp[pM,hi]at ai
 case start=>
  obtain⟨D,F,C,I,M,⟨β,aV⟩,bG,mP,ad,u2⟩:=au;obtain⟨m2,yO,SX,av⟩:=MU.head;have cc:∀ i,¬ (Array.replicate ops.length false).getD i false=true:=λi=>by
   by_cases hi:i<ops.length<;>simp[pM,hi]
  refine⟨D,F,C,I,M,0,m2,⟨β,aV.world rfl⟩,λq e _=>⟨λh=>(cc e h).elim,λh=>by omega⟩,dw _,by rw[SX];rfl,mP.grow av,λi v t hi=>(cc i hi).elim,λt v _ av=>bG t v av,λi c l T rX _=>?_,ad⟩;have:=(anG.2 i c l T rX).1;cases I5:D c with
  |none=>rfl| some b=>have:=mP.j5 _ _ I5;omega
 case fin=>
  rintro a w⟨D,F,C,I,M,j,sm,aV,xg,ai,vK,mP,C3,C4,hC,ad⟩;have ez:j=es.length:=by
   refine Nat.le_antisymm ai ?_;by_cases az:es.length=0;·omega
   ·have a1:es.length-1<es.length:=by omega
    have aa:=(xg (es.length-1) es[es.length-1] (db a1)).1 ((SW _).1 (bi a1)).1;omega
  have anI:sm=gQ:=by rw[ez,mB,nj (by omega),iX,anF]at vK;simpa using vK.symm
  subst anI;refine ry a w ⟨D,F,C,I,M,aV,λt v av=>?_,mP,ad,?_⟩
  ·rcases anE t v av with⟨i,aa,ab⟩ | ⟨aa,ab⟩
   ·obtain⟨gI,ir,_⟩:=G8 ab;exact C3 i v t (ij.1 ir).1 aa ab
   ·refine C4 t v (λi hi=>?_) ab;rcases SS mQ i hi with aj | aj
    ·simp at aj
    ·exact aa i aj
  ·obtain⟨bC,dr,C',I',M',_,_,_,_,u2⟩:=au;exact jf u2 anD
 case step=>
  rintro L a w q o⟨D,F,C,I,M,j,sm,⟨β,aV⟩,xg,ai,vK,mP,C3,C4,hC,ad⟩dK aw6 aN rM MW;have eb:q<ops.length:=(ij.1 aN).1;have sJ:=hs o (rF aN);obtain⟨⟨eA,k⟩,anJ,SY⟩:=cA.1 ((SS mQ q eb).resolve_left (by simp));have anK:eA=q:=SY;subst anK;obtain⟨a9,post,dO⟩:=vC anJ;obtain⟨-,-,abj,anL⟩:=MS mQ a9 eA k post dO;have anM:∀ e,m9 ops eA e->e∈a9.map (·.1):=λe he=>(anL e he).resolve_left (by simp);have MX:=anH a9 ((eA,k)::post) dO;have abk:=MU;rw[dO]at abk;obtain⟨xd,yN,fF,cY,vJ,yO,xe,aJ,a4,cn,dc,jX,kt,AM,IZ,xf⟩:=mj.split a9 abk;have aw7:=jX.MR;have H:∀ t∈looks ops o,∀ v,fF.get t=some v->gx D (F t) v:=λt ax v ah=>by
   rcases IZ t v ah with⟨i,aa,ab⟩ | ⟨aa,ab⟩
   ·obtain⟨gI,ir,qF⟩:=G8 ab;have abl:i∈a9.map (·.1):=by rw[<-a4];exact cA.2 ⟨_,aa,rfl⟩
    have bs:i≠eA:=λe=>abj (e ▸ abl);rcases dk.ord i eA gI o t bs ir aN qF ax with ag | ag;·exact C3 i v t (ag.mem dK MW) (by rw[aJ];exact cF.2 (.inl aa)) ab
    ·exact(abj (ag.mem MX λe he=>MX i e abl he)).elim
   ·refine C4 t v (λi hi kj=>?_) ab;obtain⟨gI,ir,qF⟩:=G8 kj;have bs:i≠eA:=λe=>rM (e ▸ hi);rcases dk.ord i eA gI o t bs ir aN qF ax with ag | ag
    ·exact aa i (ag.mem MX anM) kj
    ·exact rM (ag.mem dK λe he=>dK i e hi he)
  have s9:jz D F fF o.op.operands.toList:=anr H;have e2:Ff es (lD ops) eA<=j:=filter_le λp e aB ag=>by exact(xg p e aB).1 ((zy ag).mem dK MW)
  have gF:j<=q6 es (lD ops) eA:=le_filter ai λp e aB I6=>by
   cases ag:((lD ops).getD e 0).testBit eA with
   |false=>rfl| true=>have C5:L e:=(xg p e I6).2 aB;exact(rM ((zy ag).mem dK λd ak=>dK e d C5 ak)).elim
  have abm:lS X.E o.op≠2->∀ p e,es[p]?=some e->((L e\/e=eA) ↔ p<j):=λae p e aB=>by
   have bs:e≠eA:=λhe=>ae (by
    have:=((SW e).1 (rF aB)).2;rw[he,abe aN]at this;exact this)
   exact⟨λcW=>(xg p e aB).1 (cW.resolve_right bs),λcW=>.inl ((xg p e aB).2 cW)⟩
  have SZ:lS X.E o.op=2->es[j]?=some eA/\j+1<=es.length/\∀ p e,es[p]?=some e->((L e\/e=eA) ↔ p<j+1):=λae=>by
   have SY:eA∈es:=(SW eA).2 ⟨eb,by rw[abe aN];exact ae⟩;obtain⟨yP,gV⟩:=LX SY;have aw8:=(ij.1 gV).1;have aa:¬ yP<j:=λcW=>rM ((xg yP eA gV).2 cW);have ab:¬ j<yP:=λcW=>by
    have ez:j<es.length:=by omega
    have S0:=SV abf j yP es[j] eA cW (db ez) gV;have:=(xg j es[j] (db ez)).1 ((zy S0).mem dK MW);omega
   have aj:yP=j:=by omega
   subst aj;refine⟨gV,by omega,λp e aB=>⟨λcW=>?_,λcW=>?_⟩⟩
   ·rcases cW with cW | rfl
    ·have:=(xg p e aB).1 cW;omega
    ·refine GW λaC=>?_;have S0:=SV abf yP p e e (by omega) gV aB;exact rM ((zy S0).mem dK MW)
   ·by_cases qy:p<yP
    ·exact .inl ((xg p e aB).2 qy)
    ·have:p=yP:=by omega
     subst this;rw[gV]at aB;exact .inr (pA aB).symm
  have plain:∀ {v:aq} {dr:Fr} {C':dF} {bO:Act} {w':World},(eA,v)∈vs->lS X.E o.op≠2->(∀ l T c,q7.made eA c l T ∉ A\/True)->Rel X bO w' dr C' I M->vH o.dst v D F dr->J (λj=>L j\/j=eA) bO w':=fun {v dr C' bO w'} ah ae _ rP aB=>by obtain⟨f1,f2⟩:=Fx.ao dk aN rM Fy ah (bQ.le_refl D) aB C3 C4;exact⟨D,dr,C',I,M,j,sm,rP,abm ae,ai,vK,mP,f1,f2,λi c l T hm dN=>hC i c l T hm λhi=>dN (.inl hi),ad⟩
  have I7:∀ {v:aq} {bk:List (Nat×aq)},yN=(eA,v)::bk->(eA,v)∈vs:=fun {v bk} he=>by rw[aJ,he];exact cF.2 (.inr (by simp))
  have anN:n0<=cY.n:=by obtain⟨bC,dr,C',I',M',_,_,_,_,u2⟩:=au;exact jf u2 AM
  have abn:∀ {k:Nat},k=2->row=a9++(eA,k)::post->lS X.E o.op=2->vJ.length=j:=fun {k} eS anO ae=>by
   obtain⟨S1,ez,_⟩:=SZ ae;have anP:es=(a9.filter λr=>Nat.beq r.2 2).map (·.1)++eA::((post.filter λr=>Nat.beq r.2 2).map (·.1)):=by rw[<-abg,anO,yy,cP,o0];subst eS;simp
   have bH:es.Nodup:=by rw[<-kI];exact xZ.sublist zM
   have aa:es[vJ.length]?=some eA:=by rw[anP,nj (by rw[bE,dc];exact b2 _),bE,dc,p3];rfl
   have x8:=(ij.1 aa).1;exact(List.getElem?_inj x8 bH).1 (by rw[aa,S1])
  cases jX with
  | @q i o' bk nC jy v c6 tv S2 S3 mR oE aK ae C6 ah aB t=>
   have nD:o'=o:=pA (aK.symm.trans aN);subst nD;have hw:=MT C6 aV.ao H;refine⟨λ_=>?_,λaA=>by rw[hw]at aA;cases aA⟩;obtain⟨u,hu,anQ⟩:∃ u,vx X.P X.E G sm.t o'.op fF=some u/\∀ x,gx D x u->gx D x v:=by
    cases ay:qC o'.op with
    |false=>exact⟨v,by rw[ans ay (m2:=cY.t)];exact ah,λ_ h=>h⟩
    |true=>
     have fo:q7.load eA o' fF v∈A:=kt _ (by rw[ay];simp);have aa:=abi _ fo;have ab:=abb (show Fh S (Ff es (lD ops) eA) (q6 es (lD ops) eA) (R5 (dP X G pr) o' fF v)=true from aa) e2 gF vK;unfold R5 at ab;split at ab;·rename_i u hu;exact⟨u,hu,λx ad=>ad.same ab⟩
     ·cases ab
   refine tq (λbO w'=>?_) (D4 aQ sJ ⟨β,aV⟩ (aa7 (K:=λdr C' I' M'=>I'=I/\M'=M/\vH o'.dst v D F dr) aQ sJ ae hu s9 mP λx ad=>⟨rfl,rfl,.put F (anQ x ad)⟩));rintro⟨dr,C',I',M',e6,rfl,rfl,HY⟩;exact plain (I7 rfl) (by rw[ae];decide) (λ_ _ _=>.inr trivial) e6 HY
  | @a i o' d bk nC jy m' l T c mk c6 tv S2 S3 mR oE aK ae C6 ak ah anR aB t=>
   have nD:o'=o:=pA (aK.symm.trans aN);subst nD;have hw:=MT C6 aV.ao H;refine⟨λ_=>?_,λaA=>by rw[hw]at aA;cases aA⟩;have fo:q7.made eA cY.n l T∈A:=kt _ (by simp);have aa:=abi _ fo;have ab:=abb (show Fh S (Ff es (lD ops) eA) (q6 es (lD ops) eA) (R6 cY.n l T)=true from aa) e2 gF vK;unfold R6 at ab;rw[cz]at ab;obtain⟨Fz,ab⟩:=ab;have anS:cY.n<sm.n:=bI Fz;split at ab
   ·rename_i cs kB fQ qw;simp only[cz]at ab;obtain⟨bp,AF,ab⟩:=ab;have GI:=dR bp;subst GI;have aa0:=dR AF;subst aa0;split at ab
    ·rename_i eB oh;obtain⟨FA,gf,gn,ow⟩:=be.Fj cs l.length 0 _ _ oh;have wH:FA=eB:=pA ow;subst wH;have I5:D cY.n=none:=hC eA cY.n l kB fo rM;refine tq (λbO w'=>?_) (D4 aQ sJ ⟨β,aV⟩ (aaJ (K:=λdr C' I' M'=>∃ b us u,I'=I/\M'=⟨b,.cells us.toArray kB (0,0)⟩::M/\I b=none/\(∀ x∈M,x.num≠b)/\bL D l us/\(∀ i,X.E kB=some i->us.length=c*i.size)/\c<=maxLen /\ (∀ (bC:bQ) id,bC id=some ⟨b,0,c⟩->aT bC (mk id) u)/\AE o'.dst u F dr) aQ kD sJ ah (by rw[ak];rfl) s9 λb us u dr C' a8 ba bR fq k9 H3 MY=>⟨b,us,u,rfl,rfl,a8,ba,bR,fq,k9,H3,MY⟩));rintro⟨dr,C',I',M',e6,b,us,u,rfl,rfl,a8,ba,bR,fq,k9,H3,MY⟩;have bq:D.le (D.set cY.n ⟨b,0,c⟩):=bQ.AD _ I5;have C7:vH o'.dst (mk cY.n) (D.set cY.n ⟨b,0,c⟩) F dr:=MY.v (H3 _ _ (bQ.qf _ _ _));obtain⟨f1,f2⟩:=Fx.ao dk aN rM Fy (I7 rfl) bq C7 C3 C4;have r0:=Fw ab bR;have g2:∀ id,id≠cY.n->(D.set cY.n ⟨b,0,c⟩) id=D id:=λid mi=>by unfold bQ.set;rw[bS mi]
     have IU:∀ id e iV,sm.t.get id=some e->D id=some iV->iV.b≠b:=λid e iV hi jG C1=>by obtain⟨x,xb,AN⟩:=mP.ar hi jG;exact ba x xb (AN.trans C1)
     refine⟨D.set cY.n ⟨b,0,c⟩,dr,C',I',_,j,sm,e6,abm (by rw[ae];decide),ai,vK,?_,f1,f2,?_,λi hi=>?_⟩
     ·refine⟨λid e iV hi jG=>?_,λid jc e cQ b1 bT hi cZ aa ab C1=>?_,λid iV jG=>?_,mP.q8⟩
      ·by_cases mi:id=cY.n
       ·subst mi;rw[bQ.qf]at jG;cases jG;rw[qw]at hi;cases hi;refine .cells us.toArray rfl (by simp) (by simp[bR.len]) (λi v hi ah=>?_) (λi hi=>by simpa using fq i hi) k9;have kd:FA[i]?=some v:=by have:=gn i hi;rw[cX,ah]at this;exact this.symm
        obtain⟨x,xb,AN⟩:=r0.get kd;exact⟨x,by simpa using xb,AN.mono bq⟩
       ·rw[g2 id mi]at jG;exact(mP.jb id e iV hi jG).mono bq λx ad _=>n9 _ ad
      ·by_cases mi:id=cY.n
       ·by_cases I8:jc=cY.n
        ·rw[mi,I8]
        ·rw[g2 jc I8]at ab;rw[mi,bQ.qf]at aa;cases aa;exact(IU jc cQ bT cZ ab C1.symm).elim
       ·rw[g2 id mi]at aa;by_cases I8:jc=cY.n
        ·rw[I8,bQ.qf]at ab;cases ab;exact(IU id e b1 hi aa C1).elim
        ·rw[g2 jc I8]at ab;exact mP.inj id jc e cQ b1 bT hi cZ aa ab C1
      ·by_cases mi:id=cY.n
       ·rw[mi];exact anS
       ·rw[g2 id mi]at jG;exact mP.j5 _ _ jG
     ·intro i c' eB Ch rX dN;have anT:c'≠cY.n:=λe=>by
       rcases xf i c' eB Ch rX with h | h
       ·rcases eg.1 h with h | h
        ·cases h;exact dN (.inr rfl)
        ·have:=(t.MR.2 i c' eB Ch h).1;have:=anR.1;omega
       ·omega
      rw[g2 c' anT];exact hC i c' eB Ch rX λhi=>dN (.inl hi)
     ·rw[g2 i (by omega)];exact ad i hi
    ·cases ab
   ·cases ab
  | @e i o' bk nC jy m' v c6 tv S2 S3 mR oE aK ae C6 IW aB t=>
   have nD:o'=o:=pA (aK.symm.trans aN);subst nD;have hw:=MT C6 aV.ao H;refine⟨λ_=>?_,λaA=>by rw[hw]at aA;cases aA⟩;obtain⟨S1,ez,S4⟩:=SZ ae;have I9:=abn rfl dO ae;have Ja:sm=cY:=by rw[cn,nj (by omega),I9,p3]at vK;simpa using vK.symm
   subst Ja;obtain⟨m2,anU,Jb,S5⟩:=t.head;refine tq (λbO w'=>?_) (D4 aQ sJ ⟨β,aV⟩ (IW.2 D F C I M (λdr C' I' M'=>∃ bC,D.ext bC sm.n/\vH o'.dst v bC F dr/\c8 (dP X G pr) bC m' I' M') s9 mP λbC dr C' I' M' a8 ba bR=>⟨bC,a8,ba,bR⟩));rintro⟨dr,C',I',M',e6,bC,a8,ba,bR⟩;have bq:=mP.le a8;obtain⟨f1,f2⟩:=Fx.ao dk aN rM Fy (I7 rfl) bq ba C3 C4;refine⟨bC,dr,C',I',M',j+1,m2,e6,S4,ez,?_,bR.grow S5,f1,f2,λi c l T rX dN=>?_,bQ.aa9 ad a8 anN⟩;·rw[cn,nj (by omega),I9,show j+1-j=0+1 by omega,Gy,Jb];rfl
   ·rcases xf i c l T rX with h | h
    ·have:=(t.MR.2 i c l T h).1;cases I5:bC c with
     |none=>rfl| some b=>have:=bR.j5 _ _ I5;omega
    ·rw[a8 c h];exact hC i c l T rX λhi=>dN (.inl hi)
  | @skip i e9 o' bk nC jy c6 tv S2 S3 mR oE aK ae C6 aB t=>
   have nD:o'=o:=pA (aK.symm.trans aN);subst nD;have hw:=MT C6 aV.ao H;refine⟨λaA=>(by rw[hw]at aA;cases aA),λ_=>?_⟩;have rP:Rel X (a.put o'.dst undef) w (put o'.dst (.val undef) F) C I M:=⟨β,aV.put (x:=.val undef) sJ rfl⟩;have C7:vH o'.dst (.t []) D F (put o'.dst (.val undef) F):=.put F (.val .undef);by_cases eS:k=2
   ·subst eS;obtain⟨S1,ez,S4⟩:=SZ ae;have I9:=abn rfl dO ae;have Ja:sm=cY:=by rw[cn,nj (by omega),I9,p3]at vK;simpa using vK.symm
    subst Ja;obtain⟨m2,anU,Jb,S5⟩:=t.head;obtain⟨f1,f2⟩:=Fx.ao dk aN rM Fy (I7 rfl) (bQ.le_refl D) C7 C3 C4;refine⟨D,_,C,I,M,j+1,m2,rP,S4,ez,?_,mP.grow S5,f1,f2,λi c l T rX dN=>hC i c l T rX λhi=>dN (.inl hi),ad⟩;rw[cn,nj (by omega),I9,show j+1-j=0+1 by omega];show(sm::mR)[0+1]?=some m2;rw[Gy,Jb];rfl
   ·exact plain (I7 rfl) (by rw[ae];exact eS) (λ_ _ _=>.inr trivial) rP C7
 simpa using key
end
def C8{n:Nat}:∀ {c:Code},ie n c=true->codeOk n c=true
 | .seq x y,h=>by simp only[ie,codeOk,cz]at h |-;exact⟨C8 h.1,C8 h.2⟩
 | .block _ c,h=>by simp only[ie,codeOk]at h |-;exact C8 h
 | .cond _ x y,h=>by simp only[ie,codeOk,cz]at h |-;exact⟨C8 h.1,C8 h.2⟩
 | .loop c,h=>by simp only[ie,codeOk]at h |-;exact C8 h
 | .region _ ops _,h=>h| .scope c,h=>rfl| .rangeFunc ..,h=>rfl| .skip,h | .exit _,h | .label _,h | .goto _,h | .ret,h | .refuse _,h=>rfl
def S6{n:Nat}:∀ {c:Code} {l:Nat} {r:Code},ie n c=true->findLabel c l=some r->ie n r=true
 | .seq x y,l,r,h,ay=>by
  simp only[ie,cz]at h;simp only[findLabel]at ay;split at ay;·rename_i bk af;cases ay;simp only[ie,cz];exact⟨S6 h.1 af,h.2⟩
  ·exact S6 h.2 ay
 | .label eB,l,r,h,ay=>by
  simp only[findLabel]at ay;split at ay;·cases ay;rfl
  ·cases ay
 | .skip,_,_,_,ay | .exit _,_,_,_,ay | .goto _,_,_,_,ay | .ret,_,_,_,ay | .refuse _,_,_,_,ay | .block _ _,_,_,_,ay | .cond _ _ _,_,_,_,ay | .loop _,_,_,_,ay | .scope _,_,_,_,ay | .region _ _ _,_,_,_,ay | .rangeFunc _ _ _ _,_,_,_,ay=>by simp[findLabel]at ay
def xh(P:Program):Prop:=∀ (g:Nat) (fn:Func) (c:Code),P.funcs[g]?=some fn->fn.body=some c->ie fn.ntmps c=true/\(fn.name == "runtime.NumGoroutine")=false
def anV(P:Program):Bool:=P.funcs.toList.all λfn=>match fn.body with
 |some c=>ie fn.ntmps c && !(fn.name == "runtime.NumGoroutine")
 |none=>true
def anW(h:anV P=true):xh P:=λg fn c aA ag=>by have aa:=fi.1 h fn (by rw[<-Array.mem_def];exact Array.mem_of_getElem? aA);simp only[ag,cz,tC]at aa;exact aa
def yQ(Y:gP):Prop:=∀ g vs m v m',Y.pr g vs m=some (v,m')->∀ (D:bQ) (I:aM) (M:List aE) (us:List Value),bL D vs us->c8 Y D m I M->Spec Y.P g us I M λr I' M'=>∃ bC,D.ext bC m.n/\aT bC v r/\c8 Y bC m' I' M'
def AO:tA->Exit
 | .normal=>.normal| .exit id=>.exit id| .goto l=>.goto l| .ret=>.ret
def j6(Y:gP)(n B:Nat)(az:World)(dt:aM)(foot:List Nat)(ro:Option Nat):cV:=⟨Y.P,Y.E,List.range n,n,B,az,dt,foot,ro⟩
def j6.gG{Y:gP}{n B:Nat}{az:World}{dt:aM}{foot:List Nat}{ro:Option Nat}:∀ d,d<(j6 Y n B az dt foot ro).n->(j6 Y n B az dt foot ro).gG.contains d=true:=λd ak=>by have fD:d<n:=ak;show(List.range n).contains d=true;simpa using fD
def C9(Y:gP)(f:Nat):Prop:=∀ gL n c ao m ex c6 m',mh Y f gL n c ao m=some (ex,c6,m')->ie n c=true->∀ B az dt foot ro D0 n0 a w,(gL=true->ro=none)->lV (j6 Y n B az dt foot ro) Y.G Y.pr D0 n0 ao m a w -> c.wpIn (g' (j6 Y n B az dt foot ro)) 0 Y.P (λe a w=>e=AO ex/\lV (j6 Y n B az dt foot ro) Y.G Y.pr D0 n0 c6 m' a w) a w
def S7{α:Type}:∀ (n k:Nat),(be.bare n:be α).get k=none
 |0,k=>rfl
 |n+1,k=>by
  rw[be.bare,be.IF];cases Nat.beq k 0 with
  |true=>rfl
  |false=>
   cases Nat.beq (k%2) 1 with
   |true=>exact S7 n _| false=>exact S7 n _
section
variable{X:cV}{G:GT}{pr:mg}{D:bQ}{m:br}{F:Fr}{ao:be aq}{C:dF}{I:aM}{M:List aE}
def S8(bG:q9 D F ao)(hm:c8 (dP X G pr) D m I M):∀ {a2:List ResultVar} {vs:List aq} {K:List Value->Prop},As (dP X G pr) ao m.t a2=some vs->(∀ us,bL D vs us->K us)->pQ X F C I M a2 K
 |[],vs,K,h,ae=>by simp only[As]at h;cases h;exact ae [] .nil
 | .tmp t::l,vs,K,h,ae=>by
  simp only[As]at h;split at h;·rename_i v tv aa ab;cases h;obtain⟨u,aJ,a8⟩:=(show gx D (dq F (.tmp t)) v from bG t v aa).dC;unfold pQ;rw[aJ];exact S8 bG hm ab λus fL=>ae _ (.cons a8 fL)
  ·cases h
 | .cell t ty::l,vs,K,h,ae=>by
  simp only[As]at h;split at h
  ·rename_i x i tv aa ab aj;split at h
   ·rename_i v ah;cases h;have yH:∀ q,x≠.b q:=λq e=>by subst e;cases ah
    obtain⟨u,aJ,a8⟩:=gx.w2 (bG t x aa:gx D (dq F (.tmp t)) x) yH;obtain⟨aU,eB,FB,rfl,bm,ay,aB⟩:=w3 hm a8 ah;have ma:X.E ty=some i:=ab;have er:dq F (.tmp t)=.val (.pointer (some aU)):=aJ;unfold pQ;rw[er,ma];exact⟨FB,bm,S8 bG hm aj λus fL=>ae _ (.cons (MB aB ay) fL)⟩
   ·cases h
  ·cases h
end
def abo(aQ:cU Y.P Y.E)(bG:xh Y.P)(lW:yQ Y)(an:C9 Y f){args:List aq}{m:br}{v:aq}{fn:Func}{c:Code}(aA:Y.P.funcs[g]?=some fn)(ag:fn.body=some c)(bq:args.length<=fn.ntmps){ao c6:be aq}(xP:∀ t w,ao.get t=some w->args[t]?=some w){cY:br}(hex:ex=.normal\/ex=.ret)(h:mh Y f true fn.ntmps c ao m=some (ex,c6,cY)){vs:List aq}(af:As Y c6 cY.t fn.results.toList=some vs)
  (ah:v=aad vs) (hu:bL D args us) (hm:c8 Y D m I M):wc Y.P g us I M λr I' M'=>∃ bC,D.ext bC m.n/\aT bC v r/\c8 Y bC cY I' M':=by
 obtain⟨bw,h7⟩:=bG g fn c aA ag;refine Pf (List.range fn.ntmps) aQ aA ag h7 ?_ λB az a w aV=>?_
 ·rw[cz];exact⟨C8 bw,CF (by rw[hu.len];exact bq)⟩
 ·have anX:q9 D (xX us) ao:=λt w hw=>by obtain⟨x,aa,ab⟩:=hu.get (xP t w hw);refine .inl ⟨x,?_,ab⟩;simp only[xX,aa]
  have dS:lV (j6 Y fn.ntmps B az I (M.map (·.num)) none) Y.G Y.pr D m.n ao m a w:=⟨D,_,_,I,M,aV,anX,hm,bQ.pC,b2 _⟩;refine wpIn_mono (an _ _ _ _ _ _ _ _ h bw B az I (M.map (·.num)) none D m.n a w (λ_=>rfl) dS) ?_;rintro e bO w'⟨rfl,bC,dr,C',I',M',rP,oS,sI,ad,aC⟩;have HZ:∀ C0,C0=.normal\/C0=.ret->uU (j6 Y fn.ntmps B az I (M.map (·.num)) none) fn.results.toList (λr I' M'=>∃ bC,D.ext bC m.n/\aT bC v r/\c8 Y bC cY I' M') C0 dr C' I' M':=λC0 he=>by
   have AP:=S8 (X:=j6 Y fn.ntmps B az I (M.map (·.num)) none) (G:=Y.G) (pr:=Y.pr) (C:=C') oS sI af (K:=λvs=>match vs with
    |[vD]=>wq (M.map (·.num)) I' M' ((λr I' M'=>∃ bC,D.ext bC m.n/\aT bC v r/\c8 Y bC cY I' M') vD)
    |vs=>wq (M.map (·.num)) I' M' ((λr I' M'=>∃ bC,D.ext bC m.n/\aT bC v r/\c8 Y bC cY I' M') (.tuple vs.toArray))) λFB fL=>by
     clear af
     match vs,FB,fL,ah with
     |[],FB,fL,ah=>rw[fL.n8];refine⟨I',M',.refl,bC,ad,?_,sI⟩;rw[ah];exact .MA .nil| [v1],FB,fL,ah=>obtain⟨x,xs,aa,ab,rfl⟩:=fL.kU;rw[ab.n8];refine⟨I',M',.refl,bC,ad,?_,sI⟩;rw[ah];exact aa
     |v1::v2::vs,FB,fL,ah=>obtain⟨x,xs,aa,ab,rfl⟩:=fL.kU;obtain⟨y,ys,aj,aG,rfl⟩:=ab.kU;refine⟨I',M',.refl,bC,ad,?_,sI⟩;rw[ah];exact .MA fL
   rcases he with rfl | rfl<;>exact AP
  rcases hex with rfl | rfl;·exact⟨dr,C',I',M',rP,HZ _ (.inl rfl)⟩
  ·exact⟨dr,C',I',M',rP,HZ _ (.inr rfl)⟩
def Spec.ra{args:List Value}{p q:Value->aM->List aE->Prop}(h:Spec P f args I M p)(ae:∀ v I' M',p v I' M'->q v I' M'):Spec P f args I M q:=by
 rcases h with⟨aa,ab⟩ | h
 ·refine .inl ⟨aa,λw hw=>?_⟩;refine(ab w hw).mono ?_;rintro e w'⟨v,I',M',aJ,a4,cn,dc⟩;exact⟨v,I',M',aJ,ae _ _ _ a4,cn,dc⟩
 ·refine .inr λw hw=>?_;obtain⟨v,w',I',M',aJ,a4,cn,dc⟩:=h w hw;exact⟨v,w',I',M',aJ,ae _ _ _ a4,cn,dc⟩
section
variable{Y:gP}{D:bQ}{m m':br}{I:aM}{M:List aE}
def abp(aQ:cU Y.P Y.E)(bG:xh Y.P)(lW:yQ Y)(an:C9 Y f){args:List aq}{v:aq}(h:Mq Y (mh Y f) g args m=some (v,m'))(hu:bL D args us)(hm:c8 Y D m I M) :
  wc Y.P g us I M λr I' M'=>∃ bC,D.ext bC m.n/\aT bC v r/\c8 Y bC m' I' M':=by
 unfold Mq at h;obtain⟨fn,aA,aa⟩:=cx h;obtain⟨c,ag,ab⟩:=cx aa;obtain⟨bq,aj⟩:=fZ ab;obtain⟨ao,a8,ba⟩:=be.yG args (be.bare 12) 0;rw[a8]at aj;have xP:∀ t w,ao.get t=some w->args[t]?=some w:=λt w hw=>by
  rcases ba t w hw with⟨_,h⟩ | ⟨_,h⟩;·simpa using h
  ·rw[S7]at h;cases h
 unfold aae at aj;split at aj
 ·rename_i c6 cY ad;unfold Mp at aj;obtain⟨vs,af,aG⟩:=cx aj;cases aG;exact abo aQ bG lW an aA ag (bI bq) xP (.inl rfl) ad af rfl hu hm
 ·rename_i c6 cY ad;unfold Mp at aj;obtain⟨vs,af,aG⟩:=cx aj;cases aG;exact abo aQ bG lW an aA ag (bI bq) xP (.inr rfl) ad af rfl hu hm
 ·cases aj
def abq(aQ:cU Y.P Y.E)(bG:xh Y.P)(lW:yQ Y)(an:C9 Y f){args:List aq}{v:aq}(h:At Y (mh Y f) g args m=some (v,m'))(hu:bL D args us)(hm:c8 Y D m I M) :
  Spec Y.P g us I M λr I' M'=>∃ bC,D.ext bC m.n/\aT bC v r/\c8 Y bC m' I' M':=by
 unfold At at h;cases aB:Y.pr g args m with
 |none=>rw[aB]at h;exact .inl (abp aQ bG lW an h hu hm)| some p=>rw[aB]at h;have bc:some p=some (v,m'):=h;cases bc;exact lW g args m v m' aB D I M us hu hm
def cN.kept{a:Act}{W:World}{C:dF}{M0:List aE}(h:cN X β a w F C I' M')(aa:X.az=W)(ab:X.B=W.heap.size)(aj:X.dt=dt)(aG:X.foot=M0.map (·.num)):Kept dt M0 W I' M' w where
 le:=by rw[<-aj];exact h.im
 uP b o ag:=by
  rcases h.hR b o ag with bx | bx;·exact .inl (by rw[<-aj];exact bx)
  ·exact .inr (by rw[<-ab];exact bx)
 wb x ad:=by
  rcases h.own x ad with bx | bx;·rw[aG]at bx;obtain⟨y,aH,e⟩:=cA.1 bx;exact .inl ⟨y,aH,e⟩
  ·exact .inr (by rw[<-ab];exact bx)
 dI b ag aC:=by rw[<-aa];refine h.dI b (by rw[ab];exact ag) λhm=>?_;rw[aG]at hm;obtain⟨y,aH,e⟩:=cA.1 hm;exact aC y aH e
 out:=by rw[<-aa];exact h.out
 sz:=by rw[<-ab];exact h.sz
def abr{R:Type}:∀ {ps:List Nat} {args:List aq} {nC:be aq} {K:be aq->Option R} {r:R} {us:List Value} {tmps:Array Value},Fi ps args nC K=some r->bL D args us->(∀ t∈ps,t<tmps.size)->(∀ t v,nC.get t=some v->aT D v (tmps.getD t undef)) -> ∃ fF,K fF=some r/\us.length=ps.length/\((ps.zip us).foldl (λ(tmps:Array Value) (p:Nat×Value)=>tmps.setIfInBounds p.1 p.2) tmps).size=tmps.size /\ ∀ t v,fF.get t=some v->aT D v (((ps.zip us).foldl (λ(tmps:Array Value) (p:Nat×Value)=>tmps.setIfInBounds p.1 p.2) tmps).getD t undef)
 |[],[],nC,K,r,us,tmps,h,hu,aB,az=>by have:=hu.n8;subst this;exact⟨nC,h,rfl,rfl,az⟩
 |[],_::_,nC,K,r,us,tmps,h,hu,aB,az=>by simp[Fi]at h
 |_::_,[],nC,K,r,us,tmps,h,hu,aB,az=>by simp[Fi]at h
 |t0::ps,xi::args,nC,K,r,us,tmps,h,hu,aB,az=>by
  obtain⟨x,xs,a8,ba,rfl⟩:=hu.kU;simp only[Fi]at h;obtain⟨fF,aa,ab⟩:=be.py (some xi) nC t0;rw[aa]at h;have a1:=aB t0 (by simp);obtain⟨vL,aj,aG,bx,bZ⟩:=abr (tmps:=tmps.setIfInBounds t0 x) h ba (λt ax=>by simpa using aB t (by simp[ax])) λt v ax=>by
   rw[pM,DT];rcases ab t v ax with⟨rfl,e⟩ | ⟨bs,av⟩;·have:=(pA e);subst this;simp only[pO,a1];exact a8
   ·rw[bS (pN bs),<-pM];exact az t v av
  exact⟨vL,aj,by simp[aG],by simpa using bx,bZ⟩
def lT.MZ{a:Loc}{n:Nat}{ao:be aq}(h:lT D E M a (.loop b n ao ps fp body)):∃ L,(⟨a.b,.loop L⟩:aE)∈M/\aan D b n ao ps fp body L:=by
 cases h with
 |loop L aa ab=>exact⟨L,aa,ab⟩
def lT.anY{a:Loc}{c:Code}{n:Nat}{ao:be aq}(h:lT D E M a (.done c n ao ps fp body)):∃ L,(⟨a.b,.loop L⟩:aE)∈M/\L.state=.done/\L.pending=some c:=by
 cases h with
 |done L aa ab aj=>exact⟨L,aa,ab,aj⟩
def c8.swap(h:c8 Y D m I M){l:Nat}{aJ:fP}{o o':Obj}{Mr:List aE}(av:m.t.get l=some dd)(a6:D l=some hf)(a':M.Perm (⟨hf.b,o⟩::Mr))(ax:∀ id e,bo.get id=some e->(id=l/\some aJ=some e)\/(id≠l/\m.t.get id=some e))
  (he:lT D Y.E (⟨hf.b,o'⟩::Mr) hf aJ):c8 Y D ⟨bo,m.n⟩ I (⟨hf.b,o'⟩::Mr):=by
 refine h.step (λid e hi=>(ax id e hi).imp (λq=>⟨q.1,pA q.2⟩) λq=>q) a6 (bQ.le_refl D) (λ_ _=>rfl) h.j5 (λ_ _ h=>h) (λid e bO bs hi po x ad aC=>?_) he λid e bO bs hi po ag=>bs (h.inj _ _ _ _ _ _ hi av po a6 ag);rcases eg.1 (a'.mem_iff.1 ad)with rfl | ad
 ·exact(bs (h.inj _ _ _ _ _ _ hi av po a6 aC.symm)).elim
 ·exact n9 _ ad
end
section
variable{Y:gP}{D:bQ}{m m':br}{I:aM}{M:List aE}
def anZ(an:C9 Y f){l:Nat}{args:List aq}{v:aq}(h:Sb (mh Y f) l args m=some (v,m'))(ay:D l=some hf)(hu:bL D args us)(hm:c8 Y D m I M) :
  Ef Y.P hf.b us I M λr I' M'=>∃ bC,D.ext bC m.n/\aT bC v r/\c8 Y bC m' I' M':=by
 unfold Sb at h;split at h
 ·rename_i n nC ps fp body av;obtain⟨L,a',cc⟩:=(hm.jb _ _ _ av ay).MZ;intro W h6;have Hh:W.heap[hf.b]?=some (.loop L):=h6.m _ a';have dS:L.state=.ready:=cc.aX;have wy:∀ t∈ps,t<L.tmps.size:=λt ax=>by rw[cc.sz];exact cc.op t (by rw[cc.ps];exact ax)
  obtain⟨fF,aa,c1,da,abt⟩:=abr (tmps:=L.tmps) h hu wy cc.ao;have EH:L.params.size=ps.length:=by rw[<-cc.ps];simp
  refine⟨_,_,_,_,run_yield Hh (by rw[EH];simpa using c1),?_⟩;have nX:(L.params.zip us.toArray).foldl (λtmps (x:Nat×Value)=>match x with | (t,a)=>tmps.setIfInBounds t a) L.tmps=(ps.zip us).foldl (λ(tmps:Array Value) (p:Nat×Value)=>tmps.setIfInBounds p.1 p.2) L.tmps:=by rw[<-O0,<-cc.ps];simp
  rw[nX];generalize bp:(ps.zip us).foldl (λ(tmps:Array Value) (p:Nat×Value)=>tmps.setIfInBounds p.1 p.2) L.tmps=T at abt da;rw[cc.fp,cc.body];have s':ie n fp=true:=by rw[<-cc.fp];exact cc.yi
  have SO:ie n body=true:=by rw[<-cc.body];exact cc.nY
  refine roundIn_of_wpIn (F:=Fence.wide) (n:=0) trivial ?_;let wD:cV:=j6 Y n W.heap.size W I (M.map (·.num)) (some hf.b)
  have GU:cN wD (λ_=>0) { tmps:=T,defers:=[] } W (λt=>.val (T.getD t undef)) (λ_=>none) I M:={
   size:=da.trans cc.sz
   defers:=⟨[],rfl,DU,λr af=>by cases af⟩
   holds:=h6
   ao:=λt=>rfl
   cm:=λs cs au=>by cases au
   inj:=λs cf aa=>by simp at aa
   im:=λb o ag=>ag
   hR:=λb o ag=>.inl ag
   own:=λx ad=>.inl (cA.2 ⟨x,ad,rfl⟩)
   dI:=λb ag aA=>rfl
   out:=.refl _
   sz:=b2 _
   fy:=λx ad=>by
    obtain⟨y,aH,rfl⟩:=cA.1 ad;exact(l4.1 (h6.m y aH)).1 }
  unfold aag at aa;split at aa
  ·rename_i vL m2 an0;have fz:lV wD Y.G Y.pr D m.n fF m { tmps:=T,defers:=[] } W:=⟨D,_,_,I,M,⟨_,GU⟩,λt v ah=>.val (abt t v ah),hm,bQ.pC,b2 _⟩;refine wpIn_mono (an _ _ _ _ _ _ _ _ an0 s' _ _ _ _ _ D m.n _ _ (λe=>by cases e) fz) ?_;rintro e cM h8⟨rfl,S9,abu,abv,dz,dm,⟨abw,lG⟩,S',mE,AN,oC⟩;have wH:S9 l=some hf:=by rw[AN l (hm.j5 _ _ ay)];exact ay
   have ab:R' (mh Y f) l n body (m2.t.get l) vL m2=some (v,m'):=aa;unfold R' at ab;split at ab
   ·rename_i h2 an1 an2 an3 Sa ld;obtain⟨hZ,Ta,oa⟩:=(mE.jb _ _ _ ld wH).MZ;obtain⟨a9,post,dO⟩:=vC Ta;have mQ:dm.Perm (⟨hf.b,.loop hZ⟩::(a9++post)):=by rw[dO];exact mN
    have abx:h8.heap[hf.b]?=some (.loop hZ):=lG.holds.m _ Ta;have an4:=(l4.1 abx).1;refine⟨_,run_beginRound abx oa.aX,?_⟩;obtain⟨t3,aj,aG⟩:=be.py (some (fP.loop true h2 an1 an2 an3 Sa)) m2.t l;rw[aj]at ab;have wN:cN wD abw cM (h8.putObj hf.b (.loop { hZ with state:=.busy })) abu abv dz (⟨hf.b,.loop { hZ with state:=.busy }⟩::(a9++post)):=
     (lG.h5 (.perm mQ .refl)).swap (by simp) (D9 an4) (λb ag=>nM ag) (Kw _ _ _)
    have qg:c8 Y S9 ⟨t3,m2.n⟩ dz (⟨hf.b,.loop { hZ with state:=.busy }⟩::(a9++post)):=mE.swap ld wH mQ aG (.loop { hZ with state:=.busy } (by simp) ⟨rfl,oa.qG,oa.sz,oa.ao,oa.ps,oa.fp,oa.body,oa.yi,oa.nY,oa.op⟩);unfold aaf at ab;obtain⟨⟨ex,aw9,M2⟩,Ik,bx⟩:=cx ab;have zH:lV wD Y.G Y.pr D m.n vL ⟨t3,m2.n⟩ cM (h8.putObj hf.b (.loop { hZ with state:=.busy })):=⟨S9,abu,abv,dz,_,⟨abw,wN⟩,S',qg,AN,oC⟩;refine wpIn_mono (an _ _ _ _ _ _ _ _ Ik SO _ _ _ _ _ D m.n _ _ (λe=>by cases e) zH) ?_;rintro e g9 iX⟨rfl,aby,an5,an6,rS,rR,⟨an7,kV⟩,axa,Jc,abz,abA⟩;have M3:aby l=some hf:=by rw[abz l (hm.j5 _ _ ay)];exact ay
    have bZ:R9 l (M2.t.get l) (Eh ex) M2=some (v,m'):=bx;unfold R9 at bZ;split at bZ
    ·rename_i abB abC abD abE abF Ey;obtain⟨Tb,yR,AQ⟩:=(Jc.jb _ _ _ Ey M3).MZ;obtain⟨abG,abH,an8⟩:=vC yR;have abI:rR.Perm (⟨hf.b,.loop Tb⟩::(abG++abH)):=by rw[an8];exact mN
     have Jd:iX.heap[hf.b]?=some (.loop Tb):=kV.holds.m _ yR;have an9:=(l4.1 Jd).1;obtain⟨t5,ek,fv⟩:=be.py (some (bn (Eh ex) (fP.loop false abB abC abD abE abF) λc=>fP.done c abB abC abD abE abF)) M2.t l;rw[ek]at bZ;cases bZ;have fin:∀ jump,Eh ex=jump->∃ vD w',(Instr.endRound hf.b jump).run Y.P iX=.ok vD w'/\∃ r I' M',Ending.returned vD=.returned r/\(∃ bC,D.ext bC m.n/\aT bC (.b (Eh ex).isNone) r/\c8 Y bC ⟨t5,M2.n⟩ I' M')/\eF I' M' w'/\Kept I M W I' M' w':=by
      rintro jump ai;let M4:Loop:={ Tb with state:=if jump.isNone then .ready else .done,pending:=jump }
      have M5:cN wD an7 g9 (iX.putObj hf.b (.loop M4)) an5 an6 rS (⟨hf.b,.loop M4⟩::(abG++abH)):=
       (kV.h5 (.perm abI .refl)).swap (by simp) (D9 an9) (λb ag=>nM ag) (Kw _ _ _)
      refine⟨_,_,run_endRound jump Jd,_,rS,_,rfl,⟨aby,abz,?_,Jc.swap Ey M3 abI fv ?_⟩,M5.holds,M5.kept rfl rfl rfl rfl⟩;·rw[ai];simp[aT]
      ·rw[ai];cases jump with
       |none=>exact .loop M4 (by simp) ⟨rfl,rfl,AQ.sz,AQ.ao,AQ.ps,AQ.fp,AQ.body,AQ.yi,AQ.nY,AQ.op⟩| some c=>exact .done M4 (by simp) rfl rfl
     cases ex with
     |normal=>exact fin none rfl| exit id=>exact fin _ rfl| goto t=>exact fin _ rfl| ret=>exact fin _ rfl
    ·cases bZ
   ·cases ab
  ·cases aa
 ·cases h
end
section
variable{Y:gP}
def aoa(aQ:cU Y.P Y.E)(bG:xh Y.P)(lW:yQ Y)(an:C9 Y f):IV Y (Ms Y (mh Y f)):=λuv l m v m' h D I M u us nP fL hm=>by
 unfold Ms at h;split at h
 ·rename_i g cR cs;simp only[aT]at nP;obtain⟨vs,ws,aa,ab,rfl⟩:=nP;refine .inl ⟨g,_,_,rfl,?_⟩;have:=abq aQ bG lW an h (aa.append (fL.append ab)) hm;simpa using this
 ·rename_i q;simp only[aT]at nP;obtain⟨hf,aa,rfl⟩:=nP;exact .inr ⟨hf.b,rfl,anZ an h aa fL hm⟩
 ·cases h
def lV.world{ao:be aq}{m:br}{a:Act}(h:lV X G pr D0 n0 ao m a w):∃ D F β,(∀ t,e3 β (F t) (a.tmps.getD t undef))/\q9 D F ao:=by obtain⟨D,F,C,I,M,⟨β,aV⟩,bG,_⟩:=h;exact⟨D,F,β,aV.ao,bG⟩
def lV.eval{ao:be aq}{m:br}{a:Act}(h:lV X G pr D0 n0 ao m a w)(ad:dn ao x=some (.b b)):a.eval x=.bool b:=by obtain⟨D,F,β,aa,ab⟩:=h.world;obtain⟨u,aJ,a8⟩:=(ab.op [x]).bF (x:=x) (by simp) ad;rw[df aa aJ,a8.bool]
def gx.ok{x:dD}{v:aq}(h:gx D x v)(ad:e3 β x u):aT D v u:=by
 rcases h with⟨y,rfl,h⟩ | ⟨q,rfl,rfl⟩
 ·have:u=y:=ad;subst this;exact h
 ·have:u=.bool q:=ad;subst this;simp[aT]
def aob(aQ:cU Y.P Y.E)(bG:xh Y.P)(lW:yQ Y)(an:C9 Y f){gL:Bool}{n:Nat}{ps:Array Tmp}{ao c6:be aq}{m m':br}(h:Sd Y (mh Y f) gL n (dn ao x) ps.toList fp body ao m=some (ex,c6,m'))(bw:ie n (.rangeFunc x ps fp body)=true){B:Nat}{az:World}{foot:List Nat}{ro:Option Nat}{a:Act}(g0:gL=true->ro=none)(au:lV (j6 Y n B az dt foot ro) Y.G Y.pr D0 n0 ao m a w) :
  (Code.rangeFunc x ps fp body).wpIn (g' (j6 Y n B az dt foot ro)) 0 Y.P (λe a w=>e=AO ex/\lV (j6 Y n B az dt foot ro) Y.G Y.pr D0 n0 c6 m' a w) a w:=by
 unfold Sd at h;split at h
 ·rename_i g cap ad;have Pz:=g0 rfl;subst Pz;obtain⟨D,F,C,I,M,⟨β,aV⟩,Tc,hm,fK,u2⟩:=au;obtain⟨u,aJ,a8⟩:=(Tc.op [x]).bF (x:=x) (by simp) ad;simp only[aT]at a8;obtain⟨vs,ws,aa,ab,rfl⟩:=a8;have iU:=aa.n8;subst iU;simp only[ie,cz]at bw;obtain⟨t1,aj,aG⟩:=IQ h;refine wpIn_rangeFunc λfn _=>?_;let gJ:Loop:={ state:=.ready,pending:=none,fn:=fn,tmps:=a.tmps,params:=ps,assign:=fp,body:=body,defers:=w.heap.size }
  let l:=w.heap.size+1
  let kH:World:=(w.alloc (.deferred (some []))).alloc (.loop gJ)
  have BZ:=aV.Wx.oe (.loop gJ);have ay:(w.alloc (.deferred (some []))).heap.size=l:=by simp[l]
  rw[ay]at BZ;have aoc:∀ q∈M,q.num≠l:=λq aN e=>by have:=aV.holds.lt aN;omega
  have abJ:c8 Y (D.set m.n ⟨l,0,0⟩) ⟨t1,m.n+1⟩ I (⟨l,.loop gJ⟩::M):=hm.new (a:=⟨l,0,0⟩) aj aoc (.loop gJ (by simp) ⟨rfl,rfl,aV.size,λt v ax=>((Tc t v ax).ok (aV.ao t)).mono (bQ.AD _ hm.fresh),rfl,rfl,rfl,bw.1,bw.2.1,λt ax=>bI (fi.1 bw.2.2 t ax)⟩);unfold aaj at aG;obtain⟨⟨v,m2⟩,nd,bx⟩:=cx aG;have abK:=bQ.AD (D:=D) ⟨l,0,0⟩ hm.fresh;have nw:bL (D.set m.n ⟨l,0,0⟩) (.y m.n::cap) (.func (.yield l) #[] #[]::ws):=.cons (by simp only[aT];exact⟨_,bQ.qf _ _ _,rfl⟩) (ab.mono abK);obtain⟨qw,BL⟩:=abp aQ bG lW an nd nw abJ;have QC:=BL kH BZ.holds;have a4:=df aV.ao aJ;refine⟨l,[xN w.heap.size],kH,{ target:=.fn (.func g) ws.toArray,args:=#[.func (.yield l) #[] #[]] },kH,g,(.func (.yield l) #[] #[]::ws).toArray,kH,?_,?_,λ_ _=>trivial,?_,(λh=>by cases h),?_⟩;·show(Instr.enterLoop fn a.tmps ps fp body none).run Y.P w=_;exact run_enterLoop_outer fn a.tmps ps fp body
  ·show(Deferred.ofValue (a.eval x) (#[Operand.const (.func (.yield l) #[] #[])].map a.eval)).run Y.P kH=_;rw[a4];simp[Deferred.ofValue,Act.eval]
  ·simp only[invoke];rw[show #[Value.func (.yield l) #[] #[]]++ws.toArray=(.func (.yield l) #[] #[]::ws).toArray from by apply gY;simp];exact qw _ _
  ·refine(Pa (X:=j6 Y n B az dt foot none) QC _).mono ?_;rintro e mB⟨r,h9,sL,rfl,⟨Je,Td,QP,qg⟩,abL,Da⟩;have sM:=BZ.after (Mr:=[]) (by simp) abL Da;rw[ed]at sM;have zG:Je m.n=some ⟨l,0,0⟩:=by rw[Td m.n (Bw _)];exact bQ.qf _ _ _
   have aod:=abJ.le Td;have aoe:q9 Je F ao:=λt v ax=>(Tc t v ax).mono (bQ.le_trans abK aod);have aof:D0.ext Je n0:=λi hi=>by
    have ft:i<m.n+1:=by
     have:i<m.n:=by omega
     omega
    rw[Td i ft];show(if i=m.n then _ else D i)=D0 i;rw[bS (by omega)];exact fK i hi
   have fin:∀ (L:Loop) (t4:be fP) (j:Option Code),(⟨l,.loop L⟩:aE)∈sL->L.state≠.busy->L.pending=j->(∃ dd,m2.t.get m.n=some dd)->(∀ id e,t4.get id=some e->(id=m.n/\(none:Option fP)=some e)\/(id≠m.n/\m2.t.get id=some e))->n0<=m2.n ->
     ∃ iX,(Instr.endLoop l).run Y.P mB=.ok j iX/\lV (j6 Y n B az dt foot none) Y.G Y.pr D0 n0 ao ⟨t4,m2.n⟩ { a with defers:=[xN w.heap.size]++a.defers } iX:=by
    rintro L t4 j cc ag aB⟨dd,aog⟩QQ abA;have aoh:mB.heap[l]?=some (.loop L):=abL.m _ cc;obtain⟨a9,post,dO⟩:=vC cc;have mQ:sL.Perm (⟨l,.loop L⟩::(a9++post)):=by rw[dO];exact mN
    have jY:∀ i fh,t4.get i=some fh->i≠m.n/\m2.t.get i=some fh:=λi fh hi=>by
     rcases QQ i fh hi with⟨_,fv⟩ | fv;·cases fv
     ·exact fv
    have kV:=(sM.h5 (.perm mQ .refl)).He (o':=.loop { L with state:=.exhausted });refine⟨_,(by rw[<-aB];exact run_endLoop aoh ag),Je,F,C,h9,a9++post,⟨β,kV⟩,aoe,⟨λi fh b hi jG=>?_,λi gX fh AK b iV hi cZ=>qg.inj i gX fh AK b iV (jY i fh hi).2 (jY gX AK cZ).2,qg.j5,qg.q8⟩,aof,abA⟩;refine(qg.jb i fh b (jY i fh hi).2 jG).mono (bQ.le_refl Je) λq aN aC=>?_;rcases eg.1 (mQ.mem_iff.1 aN)with rfl | aN;·exact((jY i fh hi).1 (qg.inj _ _ _ _ _ _ (jY i fh hi).2 aog jG zG aC.symm)).elim
    ·exact aN
   have oC:∀ {dd:fP},m2.t.get m.n=some dd->n0<=m2.n:=λ_=>by have:=qg.j5 _ _ zG;omega
   have bZ:(match m2.t.get m.n with
    |some (.loop false ..)=>m2.t.n7 none m.n λt=>some (tA.normal,ao,(⟨t,m2.n⟩:br))
    |some (.done c ..)=>bn (Sc c) none λex=>m2.t.n7 none m.n λt=>some (ex,ao,⟨t,m2.n⟩)
    |_=>none)=some (ex,c6,m'):=bx
   split at bZ;·rename_i LP aoi aoj aok aol r0;obtain⟨L,cc,abM⟩:=(qg.jb _ _ _ r0 zG).MZ;obtain⟨t4,ek,fv⟩:=be.py (none:Option fP) m2.t m.n;rw[ek]at bZ;cases bZ;obtain⟨iX,dZ,rU⟩:=fin L t4 none cc (by rw[abM.aX];simp) abM.qG ⟨_,r0⟩ fv (oC r0);exact⟨none,iX,dZ,rfl,rU⟩
   ·rename_i c LP aoi aoj aok aol r0;obtain⟨L,cc,dS,Te⟩:=(qg.jb _ _ _ r0 zG).anY;obtain⟨C0,hex,bZ⟩:=cx bZ;obtain⟨t4,ek,fv⟩:=be.py (none:Option fP) m2.t m.n;rw[ek]at bZ;cases bZ;obtain⟨iX,dZ,rU⟩:=fin L t4 (some c) cc (by rw[dS];simp) Te ⟨_,r0⟩ fv (oC r0);refine⟨some c,iX,dZ,?_⟩;unfold Sc at hex;split at hex
    ·cases hex;exact wpIn_exit ⟨rfl,rU⟩
    ·cases hex;exact wpIn_goto ⟨rfl,rU⟩
    ·cases hex;exact wpIn_ret ⟨rfl,rU⟩
    ·cases hex
   ·cases bZ
 ·cases h
end
section
variable{Y:gP}
def abN{next:Act->World->Prop}{a:Act}(h:Q (AO ex) a w)(bs:ex≠.normal):Exit.then next Q (AO ex) a w:=by cases ex<;>first | exact(bs rfl).elim | exact h
def aom(aQ:cU Y.P Y.E)(bG:xh Y.P)(lW:yQ Y)(iz:Y.P.follows .mixedOrders=true):∀ f k,k<=f->C9 Y k:=by
 intro f
 induction f with
 |zero=>
  intro k ae gL n c ao m ex c6 m' h;have:k=0:=by omega
  subst this;cases h
 |succ f aF=>
  intro k ae;by_cases Ib:k<=f;·exact aF k Ib
  have tW:k=f+1:=by omega
  subst tW;have an:=aF f (b2 _);have nd:=aoa aQ bG lW an;intro gL n c ao m ex c6 m' h bw B az dt foot ro D0 n0 a w g0 au;have aa:Se Y f (mh Y f) gL n c ao m=some (ex,c6,m'):=h;have kD:=@j6.gG Y n B az dt foot ro;unfold Se at aa;cases c with
  |skip=>cases aa;exact wpIn_skip ⟨rfl,au⟩| label l=>cases aa;exact wpIn_label ⟨rfl,au⟩| ret=>cases aa;exact wpIn_ret ⟨rfl,au⟩| exit id=>cases aa;exact wpIn_exit ⟨rfl,au⟩| goto l=>cases aa;exact wpIn_goto ⟨rfl,au⟩| refuse s=>cases aa
  |seq x y=>
   simp only[ie,cz]at bw;simp only[ID]at aa;split at aa;·rename_i fF cY ad;refine wpIn_seq (wpIn_mono (an _ _ _ _ _ _ _ _ ad bw.1 B az dt foot ro D0 n0 a w g0 au) ?_);rintro e cM h8⟨rfl,fz⟩;exact an _ _ _ _ _ _ _ _ aa bw.2 B az dt foot ro D0 n0 cM h8 g0 fz
   ·rename_i dN;refine wpIn_seq (wpIn_mono (an _ _ _ _ _ _ _ _ aa bw.1 B az dt foot ro D0 n0 a w g0 au) ?_);rintro e cM h8⟨rfl,fz⟩;exact abN ⟨rfl,fz⟩ λe=>dN c6 m' (by rw[aa,e])
  |block id c=>
   simp only[ie]at bw;simp only[aah]at aa;split at aa
   ·rename_i j fF cY ad;refine wpIn_block (wpIn_mono (an _ _ _ _ _ _ _ _ ad bw B az dt foot ro D0 n0 a w g0 au) ?_);rintro e cM h8⟨rfl,fz⟩;simp only[AO,Exit.inBlock];by_cases ai:j=id
    ·subst ai;rw[rq]at aa;have ab:some (tA.normal,fF,cY)=some (ex,c6,m'):=aa;cases ab;rw[bN rfl];exact⟨rfl,fz⟩
    ·rw[hE ai]at aa;have ab:some (tA.exit j,fF,cY)=some (ex,c6,m'):=aa;cases ab;rw[bS ai];exact⟨rfl,fz⟩
   ·rename_i dN;refine wpIn_block (wpIn_mono (an _ _ _ _ _ _ _ _ aa bw B az dt foot ro D0 n0 a w g0 au) ?_);rintro e cM h8⟨rfl,fz⟩;cases ex with
    |exit j=>exact(dN j c6 m' aa).elim| normal=>exact⟨rfl,fz⟩| goto l=>exact⟨rfl,fz⟩| ret=>exact⟨rfl,fz⟩
  |cond x gf gn=>
   simp only[ie,cz]at bw;simp only[aai]at aa;split at aa
   ·rename_i b ad;refine wpIn_cond (au.eval ad) ?_;cases b with
    |true=>exact an _ _ _ _ _ _ _ _ aa bw.1 B az dt foot ro D0 n0 a w g0 au| false=>exact an _ _ _ _ _ _ _ _ aa bw.2 B az dt foot ro D0 n0 a w g0 au
   ·cases aa
  |loop c=>
   simp only[ie]at bw;let J (k:Nat) (a:Act) (w:World):Prop:=k<=f+1/\∃ fF cY,mh Y k gL n (.loop c) fF cY=some (ex,c6,m')/\lV (j6 Y n B az dt foot ro) Y.G Y.pr D0 n0 fF cY a w
   refine KD J (m:=f+1) ⟨b2 _,ao,m,h,au⟩ ?_;rintro k cM h8⟨ae,fF,cY,ab,fz⟩;cases k with
   |zero=>cases ab
   |succ k=>
    have Cw:=aF k (by omega);have aj:ID (mh Y k gL n c fF cY) (mh Y k gL n (.loop c))=some (ex,c6,m'):=ab;simp only[ID]at aj;split at aj;·rename_i vL m2 ad;refine wpIn_mono (Cw _ _ _ _ _ _ _ _ ad bw B az dt foot ro D0 n0 cM h8 g0 fz) ?_;rintro e d' kH⟨rfl,iA⟩;exact⟨k,Bw k,by omega,vL,m2,aj,iA⟩
    ·rename_i dN;refine wpIn_mono (Cw _ _ _ _ _ _ _ _ aj bw B az dt foot ro D0 n0 cM h8 g0 fz) ?_;rintro e d' kH⟨rfl,iA⟩;exact abN ⟨rfl,iA⟩ λe=>dN c6 m' (by rw[aj,e])
  |region id ops aon=>
   cases aon with
   |false=>simp only[Mt]at aa;obtain⟨⟨fF,cY⟩,ad,ab⟩:=cx aa;cases ab;refine wpIn_region ?_;have:=SR (X:=j6 Y n B az dt foot ro) (G:=Y.G) (pr:=Y.pr) (D0:=D0) (n0:=n0) aQ kD nd ops (λe a w=>e=AO .normal/\lV (j6 Y n B az dt foot ro) Y.G Y.pr D0 n0 fF cY a w) (λa w h=>⟨rfl,h⟩) ops.toList 0 (by simp) (KB bw) ad au;have dZ:wpOpsIn (g' (j6 Y n B az dt foot ro)) 0 Y.P ops (λe a w=>e=AO .normal/\lV (j6 Y n B az dt foot ro) Y.G Y.pr D0 n0 fF cY a w) (List.range' 0 ops.toList.length) a w:=this;rw[xH];simpa using dZ
   |true=>simp only[Mt]at aa;obtain⟨⟨fF,cY⟩,ad,ab⟩:=cx aa;cases ab;exact anv (X:=j6 Y n B az dt foot ro) (G:=Y.G) (pr:=Y.pr) (D0:=D0) (n0:=n0) aQ kD nd iz bw ad (λa w h=>⟨rfl,h⟩) au
  |scope c=>
   simp only[ie]at bw;have step:∀ (k:Nat) (x:Code) (fF:be aq) (cY:br) (cM:Act) (h8:World),ie n x=true->IE (mh Y f) gL n c (k+1) x fF cY=some (ex,c6,m')->lV (j6 Y n B az dt foot ro) Y.G Y.pr D0 n0 fF cY cM h8 ->
     x.wpIn (g' (j6 Y n B az dt foot ro)) 0 Y.P (λe bO w'=>match e with
      | .goto l=>∃ bk vL m2,findLabel c l=some bk/\IE (mh Y f) gL n c k bk vL m2=some (ex,c6,m')/\lV (j6 Y n B az dt foot ro) Y.G Y.pr D0 n0 vL m2 bO w'| e=>e=AO ex/\lV (j6 Y n B az dt foot ro) Y.G Y.pr D0 n0 c6 m' bO w') cM h8:=λk x fF cY cM h8 ad ab fz=>by
    have aj:(match mh Y f gL n x fF cY with
     |some (.goto l,ao,m)=>bn (findLabel c l) none λbk=>IE (mh Y f) gL n c k bk ao m
     |r=>r)=some (ex,c6,m'):=ab
    split at aj;·rename_i l vL m2 he;obtain⟨bk,tH,aG⟩:=cx aj;refine wpIn_mono (an _ _ _ _ _ _ _ _ he ad B az dt foot ro D0 n0 cM h8 g0 fz) ?_;rintro e d' kH⟨rfl,iA⟩;exact⟨bk,vL,m2,tH,aG,iA⟩
    ·rename_i dN;refine wpIn_mono (an _ _ _ _ _ _ _ _ aj ad B az dt foot ro D0 n0 cM h8 g0 fz) ?_;rintro e d' kH⟨rfl,iA⟩;cases ex with
     |goto l=>exact(dN l c6 m' aj).elim| exit j=>exact⟨rfl,iA⟩| normal=>exact⟨rfl,iA⟩| ret=>exact⟨rfl,iA⟩
   let J (l k:Nat) (a:Act) (w:World):Prop:=∃ bk fF cY,findLabel c l=some bk/\IE (mh Y f) gL n c k bk fF cY=some (ex,c6,m')/\lV (j6 Y n B az dt foot ro) Y.G Y.pr D0 n0 fF cY a w
   cases f with
   |zero=>cases aa
   |succ u9=>
    refine Ws J (wpIn_mono (step u9 c ao m a w bw aa au) ?_) ?_
    ·intro e cM h8 he;cases e with
     |goto l=>exact⟨u9,he⟩| _=>exact he
    ·rintro l k cM h8⟨bk,fF,cY,tH,ab,fz⟩;cases k with
     |zero=>cases ab
     |succ k=>
      refine⟨bk,tH,wpIn_mono (step k bk fF cY cM h8 (S6 bw tH) ab fz) ?_⟩;intro e d' kH he;cases e with
      |goto eB=>exact⟨k,Bw k,he⟩| _=>exact he
  |rangeFunc x ps fp body=>exact aob aQ bG lW an aa bw g0 au
def reckon(aQ:cU Y.P Y.E)(bG:xh Y.P)(lW:yQ Y)(iz:Y.P.follows .mixedOrders=true){args:List aq}{m m':br}{v:aq}(h:At Y (mh Y f) g args m=some (v,m'))(hu:bL D args us)(hm:c8 Y D m I M) : Spec Y.P g us I M λr I' M'=>∃ bC,D.ext bC m.n/\aT bC v r/\c8 Y bC m' I' M':=
 abq aQ bG lW (aom aQ bG lW iz f f (b2 _)) h hu hm
end
def abO{w':World}(h:eF I M w)(aa:eF I' M' w')(ab:Kept I [] w I' M' w') :
  eF I' (M'++M) w'/\Kept I M w I' (M'++M) w'/\∀ x∈M',∀ y∈M,x.num≠y.num:=by
 have a1:∀ x∈M,x.num<w.heap.size:=λx ad=>(l4.1 (h.m x ad)).1;have cJ:∀ x∈M',w.heap.size<=x.num:=λx ad=>by
  rcases ab.wb x ad with⟨y,aH,_⟩ | h;·cases aH
  ·exact h
 have bs:∀ x∈M',∀ y∈M,x.num≠y.num:=λx ad y aH e=>by have:=a1 y aH;have:=cJ x ad;omega
 refine⟨⟨aa.i,λx ad=>?_,λx ad=>?_,?_⟩,⟨ab.le,ab.uP,λx ad=>?_,λb ag _=>ab.dI b ag (by simp),ab.out,ab.sz⟩,bs⟩
 ·rcases cF.1 ad with ad | ad
  ·exact aa.m x ad
  ·rw[ab.dI x.num (a1 x ad) (by simp)];exact h.m x ad
 ·rcases cF.1 ad with ad | ad
  ·exact aa.d x ad
  ·cases he:I' x.num with
   |none=>rfl
   |some o=>
    rcases ab.uP _ _ he with aj | aj;·rw[h.d x ad]at aj;cases aj
    ·have:=a1 x ad;omega
 ·rw[cP,uJ];refine⟨aa.ca,h.ca,λa a6 b ag e=>?_⟩;obtain⟨x,ad,rfl⟩:=cA.1 a6;obtain⟨y,aH,rfl⟩:=cA.1 ag;exact bs x ad y aH e
 ·rcases cF.1 ad with ad | ad
  ·exact .inr (cJ x ad)
  ·exact .inl ⟨x,ad,rfl⟩
def Spec.frame{args:List Value}{Q:Value->aM->List aE->Prop}(h:Spec P f args I [] Q):Spec P f args I M λr I' mz=>∃ M',mz=M'++M/\(∀ x∈M',∀ y∈M,x.num≠y.num)/\(∀ b o,I b=some o->I' b=some o)/\Q r I' M':=by
 have az:∀ {w:World},eF I M w->eF I [] w:=λhw=>⟨hw.i,by simp,by simp,by simp⟩;rcases h with⟨aa,ab⟩ | h
 ·refine .inl ⟨aa,λw hw=>?_⟩;refine(ab w (az hw)).mono ?_;rintro e w'⟨v,I',M',aJ,a4,cn,dc⟩;obtain⟨a8,ba,bR⟩:=abO hw cn dc;exact⟨v,I',M'++M,aJ,⟨M',rfl,bR,dc.le,a4⟩,a8,ba⟩
 ·refine .inr λw hw=>?_;obtain⟨v,w',I',M',aJ,a4,cn,dc⟩:=h w (az hw);obtain⟨a8,ba,bR⟩:=abO hw cn dc;exact⟨v,w',I',M'++M,aJ,⟨M',rfl,bR,dc.le,a4⟩,a8,ba⟩
mutual
def j7(k:Nat):aq->aq
 | .p id off=>.p (Nat.add id k) off| .sl id off n c=>.sl (Nat.add id k) off n c| .sx id off e n=>.sx (Nat.add id k) off e n| .m id=>.m (Nat.add id k)| .y id=>.y (Nat.add id k)| .f g l r=>.f g (rc k l) (rc k r)| .Iq t v=>.Iq t (j7 k v)| .t l=>.t (rc k l)| .a l=>.a (rc k l)| .b x=>.b x| .i a n=>.i a n| .s l=>.s l| .pn=>.pn| .g n off=>.g n off| .sn=>.sn| .gs n off a c=>.gs n off a c| .so=>.so| .mn=>.mn| .fn=>.fn| .ni=>.ni
def rc(k:Nat):List aq->List aq
 |[]=>[]| v::l=>j7 k v::rc k l
end
section
mutual
def FC{D0 D:bQ}{k:Nat}(dk:∀ id a,D0 id=some a->D (Nat.add id k)=some a):∀ (v:aq) {u:Value},aT D0 v u->aT D (j7 k v) u
 | .p id off,u,h=>by simp only[aT,j7]at h |-;obtain⟨a,a6,h⟩:=h;exact⟨a,dk _ _ a6,h⟩
 | .sl id off n c,u,h=>by simp only[aT,j7]at h |-;obtain⟨a,a6,h⟩:=h;exact⟨a,dk _ _ a6,h⟩
 | .sx id off e n,u,h=>by simp only[aT,j7]at h |-;obtain⟨a,a6,h⟩:=h;exact⟨a,dk _ _ a6,h⟩
 | .m id,u,h=>by simp only[aT,j7]at h |-;obtain⟨a,a6,h⟩:=h;exact⟨a,dk _ _ a6,h⟩
 | .y id,u,h=>by simp only[aT,j7]at h |-;obtain⟨a,a6,h⟩:=h;exact⟨a,dk _ _ a6,h⟩
 | .f g l r,u,h=>by simp only[aT,j7]at h |-;obtain⟨vs,ws,aa,ab,h⟩:=h;exact⟨vs,ws,Jf dk l aa,Jf dk r ab,h⟩
 | .Iq t v,u,h=>by simp only[aT,j7]at h |-;obtain⟨x,aa,h⟩:=h;exact⟨x,FC dk v aa,h⟩
 | .t l,u,h=>by simp only[aT,j7]at h |-;obtain⟨x,aa,h⟩:=h;exact⟨x,Jf dk l aa,h⟩
 | .a l,u,h=>by simp only[aT,j7]at h |-;obtain⟨x,aa,h⟩:=h;exact⟨x,Jf dk l aa,h⟩
 | .b x,u,h=>by simpa only[aT,j7]using h
 | .i a n,u,h=>by simpa only[aT,j7]using h
 | .s l,u,h=>by simpa only[aT,j7]using h
 | .pn,u,h=>by simpa only[aT,j7]using h
 | .g n off,u,h=>by simpa only[aT,j7]using h
 | .sn,u,h=>by simpa only[aT,j7]using h
 | .gs n off a c,u,h=>by simpa only[aT,j7]using h
 | .so,u,h=>by simpa only[aT,j7]using h
 | .mn,u,h=>by simpa only[aT,j7]using h
 | .fn,u,h=>by simpa only[aT,j7]using h
 | .ni,u,h=>by simpa only[aT,j7]using h
def Jf{D0 D:bQ}{k:Nat}(dk:∀ id a,D0 id=some a->D (Nat.add id k)=some a):∀ (l:List aq) {us:List Value},bL D0 l us->bL D (rc k l) us
 |[],us,h=>by simpa only[bL,rc]using h
 |v::l,us,h=>by simp only[bL,rc]at h |-;obtain⟨x,xs,aa,ab,h⟩:=h;exact⟨x,xs,FC dk v aa,Jf dk l ab,h⟩
end
end
end Go.V
