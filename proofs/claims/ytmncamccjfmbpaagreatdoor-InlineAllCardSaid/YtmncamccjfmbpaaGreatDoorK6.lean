/- Part 6 of what the proofs of this seat share: the executor, data in memory, walks.
-/
import Derived.Test.YtmncamccjfmbpaaGreatDoorK5
import Derived.Test.YtmncamccjfmbpaaGreatDoorK3
import Derived.Lib.SliceRun
set_option linter.all false
namespace Go.V
open Go
def nJ:=@List.mem_cons_of_mem
def u9:=@List.append_of_mem
def Ra:=@List.filter_eq_nil_iff
def Rb:=@List.reverse_reverse
variable{xs cs z0 b8 us:List Value}{u ma:Value}{b:Bool}{args:Array Operand}{fJ:Array Nat}{op:Op}{D bC LI D0:bO}{a cQ:Option Addr}{G:GT}{bm:be fG}{fT j e off t g clock cL b1 f n0:Nat}{dF:fG}{x y os pM lo hi mx:Operand}{E:Env}{P:Program}{w:World}{M M':List aD}{mi:TypeDesc}{ut:Option dD}{aF lM c7:dD}{R α:Type}{cJ hc:IntKind}{dst:Option Nat}{F dk:Fr}{call:ao->List ao->bo->Option (ao×bo)}{ops:List Oper}{β:Nat->Nat}{X:cV}{Q:Exit->Act->World->Prop}{Y:gH}{I dp I':aI}{row:List (Nat×Nat)}{ex:s'}{ps:List Nat}{fe body:Code}{g9:Loc}{pr:lU}
section
variable{X:cV}{G:GT}{pr:lU}{D:bO}{m:bo}{F:Fr}{al:be ao}{C:dB}{I:aI}{M:List aD}{V:dA->Prop}{O:Prop}
def akU(c:Bool)(a b:Value):Ju c (.val a) (.val b)=.val (bif c then a else b):=by cases a<;>cases b<;>cases c<;>rfl
def Zm{o:Option Operand}{xs:List Operand}(H:ji D F al xs)(ad:∀ y,o=some y->y∈xs){r:Option Nat}(h:B6 (o.map (dg al))=some r) :
  (o.map (dw (di F))=none/\r=none)\/∃ k n,o.map (dw (di F))=some (.val (.int k (Int.ofNat n)))/\r=some n:=by
 cases o with
 |none=>simp[B6]at h;exact .inl ⟨rfl,h.symm⟩
 |some y=>
  simp only[k8,B6]at h;cases ah:dg al y with
  |none=>rw[ah]at h;cases h
  |some v=>
   rw[ah]at h;simp only at h;split at h;·rename_i n aB;cases h;obtain⟨k,rfl⟩:=EF aB;obtain⟨u,hu,af⟩:=H.bE (ad y rfl) ah;rw[af.int]at hu;exact .inr ⟨k,n,by simp only[k8];exact congrArg some hu,rfl⟩
   ·cases h
def Rc(l:List UInt8)(lo hi:Nat):(⟨(Qv l lo hi).toArray⟩:ByteArray)=(⟨l.toArray⟩:ByteArray).extract lo hi:=by apply vB;apply gS;unfold Qv;rw[HT];simp[Jq,List.extract_eq_take_drop]
def akV{v:ao}{n:Nat}(h:wq v=some n)(ah:aT D v u):∃ a c,u=.slice a n c:=by
 unfold wq at h;split at h
 ·cases h;exact⟨_,_,ah.Cc⟩
 ·cases h;obtain⟨a,c,rfl⟩:=ah.Lw;exact⟨_,_,rfl⟩
 ·cases h;obtain⟨a,_,rfl⟩:=ah.sJ;exact⟨_,_,rfl⟩
 ·cases h;obtain⟨a,_,_,rfl⟩:=ah.u6;exact⟨_,_,rfl⟩
 ·cases h;exact⟨_,_,ah.Q1⟩
 ·cases h
def akW(aM:cU X.P X.E){b:Builtin}{fJ:Array TypeId}{v:ao}(h:QA X.E b fJ.toList (n6 al args.toList)=some v)(H:ji D F al args.toList)(k:∀ x,gj D x v->V x) :
  cF X (.call { callee:=.builtin b,args:=args,argTypes:=fJ }) (di F) C I M V O:=by
 unfold QA at h;split at h
 ·
  unfold Yy at h;split at h
  ·rename_i t w av ay;obtain⟨us,aG,a8⟩:=H.mH (λ_ h=>h) ay;obtain⟨u,xs,ba,bP,rfl⟩:=a8.kE;have:=bP.nI;subst this;have ej:jX (di F) args.toList=some [u]:=aG;simp only[cF,av,ej];split at h
   ·rename_i a b z e u' oA;unfold Lh at h;obtain⟨n,aB,h⟩:=cp h;have dN:some (ao.i .i64 (.ofNat n))=some v:=h;cases dN;obtain⟨bM,c,rfl⟩:=akV aB ba;simp only[oA];exact k _ (.val (by simp only[aT];rfl))
   ·rename_i a b z l oA;cases h;rw[ba.str];simp only[oA];refine k _ (.val ?_);simp only[aT];simp[ByteArray.size]
   ·rename_i a b z n e u' oA;cases h;cases u<;>(simp only[oA];exact k _ (.val (by simp only[aT];rfl)))
   ·cases h
  ·cases h
 ·unfold Yz at h;split at h
  ·rename_i ez a cJ b ay;obtain⟨us,aG,a8⟩:=H.mH (λ_ h=>h) ay;obtain⟨u,xs,ba,bP,rfl⟩:=a8.kE;obtain⟨w,ys,fr,lk,rfl⟩:=bP.kE;have:=lk.nI;subst this;have ej:jX (di F) args.toList=some [u,w]:=aG;rw[ba.int,fr.int]at ej;simp only[cF,ej];cases h;refine k _ (.val ?_);simp only[aT];rw[kD,Lt];by_cases jf:a<=b
   ·simp[jf];omega
   ·simp[jf];omega
  ·cases h
 ·unfold YA at h;split at h
  ·rename_i ez a cJ b ay;obtain⟨us,aG,a8⟩:=H.mH (λ_ h=>h) ay;obtain⟨u,xs,ba,bP,rfl⟩:=a8.kE;obtain⟨w,ys,fr,lk,rfl⟩:=bP.kE;have:=lk.nI;subst this;have ej:jX (di F) args.toList=some [u,w]:=aG;rw[ba.int,fr.int]at ej;simp only[cF,ej];cases h;refine k _ (.val ?_);simp only[aT];rw[kD,Lt];by_cases jf:a<=b
   ·simp[jf];omega
   ·simp[jf];omega
  ·cases h
 ·unfold YB at h;split at h
  ·rename_i t id off n c av ay;split at h
   ·rename_i a b z e oA;cases h;obtain⟨us,aG,a8⟩:=H.mH (λ_ h=>h) ay;obtain⟨u,xs,ba,bP,rfl⟩:=a8.kE;have:=bP.nI;subst this;obtain⟨bM,a2,rfl⟩:=ba.sJ;have ej:jX (di F) args.toList=some [_]:=aG;simp only[cF,av,ej,oA];exact k _ (.val (by simp only[aT];rfl))
   ·cases h
  ·cases h
 ·unfold YC at h;split at h
  ·rename_i ay;cases h;obtain⟨us,aG,a8⟩:=H.mH (λ_ h=>h) ay;obtain⟨u,xs,ba,bP,rfl⟩:=a8.kE;have:=bP.nI;subst this;rw[ba.Cc]at aG;have ej:jX (di F) args.toList=some [_]:=aG;simp only[cF,ej];exact k _ (.val (by simp only[aT]))
  ·rename_i id off n c ay;obtain⟨az,h⟩:=zU h;cases h;obtain⟨us,aG,a8⟩:=H.mH (λ_ h=>h) ay;obtain⟨u,xs,ba,bP,rfl⟩:=a8.kE;have:=bP.nI;subst this;obtain⟨bM,a2,rfl⟩:=ba.sJ;have ej:jX (di F) args.toList=some [_]:=aG;simp only[cF,ej];refine⟨λe=>?_,k _ (.val ?_)⟩
   ·have:c=0:=by omega
    subst this;cases az
   ·simp only[aT];exact⟨bM,a2,rfl⟩
  ·rename_i id off e n ay;obtain⟨az,h⟩:=zU h;cases h;obtain⟨us,aG,a8⟩:=H.mH (λ_ h=>h) ay;obtain⟨u,xs,ba,bP,rfl⟩:=a8.kE;have:=bP.nI;subst this;obtain⟨bM,a2,bp,rfl⟩:=ba.u6;have ej:jX (di F) args.toList=some [_]:=aG;simp only[cF,ej];refine⟨λcW=>?_,k _ (.val ?_)⟩
   ·have:n=0:=by omega
    subst this;cases az
   ·simp only[aT];exact⟨bM,a2,rfl⟩
  ·cases h
 ·cases h
def akX(aM:cU X.P X.E){v:ao}(h:QB X.P X.E G m.t op al=some v)(H:ji D F al op.operands.toList)(hm:c8 (dM X G pr) D m I M)(k:∀ x,gj D x v->V x):cF X op (di F) C I M V O:=by
 unfold QB at h;split at h
 ·
  exact k _ (H _ (by simp[Op.operands]) _ h)
 ·exact k _ (H _ (by simp[Op.operands]) _ h)
 ·
  rename_i c a b;unfold Yl at h;split at h
  ·rename_i q u w aa ab ak;cases h;have ap:=H c (by simp[Op.operands]) _ aa;have a2:=H a (by simp[Op.operands]) _ ab;have ag:=H b (by simp[Op.operands]) _ ak;simp only[cF];rcases ap with⟨auI,LJ,ap⟩ | ⟨fD,cW,LJ⟩
   ·rw[ap.bool]at LJ;simp only[LJ];obtain⟨Rd,rQ,akY⟩:=a2.dw;obtain⟨Re,K7,cG⟩:=ag.dw;have akZ:dw (di F) a=.val Rd:=rQ;have ak0:dw (di F) b=.val Re:=K7;rw[akZ,ak0];refine k _ (.inl ⟨bif q then Rd else Re,?_,?_⟩)
    ·exact akU q Rd Re
    ·cases q
     ·exact cG
     ·exact akY
   ·cases cW;simp only[LJ];cases q
    ·exact k _ ag
    ·exact k _ a2
  ·cases h
 ·
  rename_i auJ t x;unfold Ym at h;split at h
  ·rename_i b aa;cases h;have ad:=H x (by simp[Op.operands]) _ aa;simp only[cF];rcases ad with⟨u,e,hu⟩ | ⟨q,aG,e⟩
   ·rw[hu.bool]at e;simp only[e];exact k _ (.val (by simp only[aT];rw[Q9]))
   ·cases aG;simp only[e];exact k _ (.inr ⟨!b,by rw[Q9],rfl⟩)
  ·rename_i gb n aa;cases h;have ad:=H x (by simp[Op.operands]) _ aa;obtain⟨u,e,hu⟩:=ad.wy (by simp);rw[hu.int]at e;simp only[cF,e];exact⟨_,rfl,k _ (.val (by simp only[aT];rw[zV]))⟩
  ·cases h
 ·
  rename_i auK t x y bm;unfold Yn at h;obtain⟨a,aa,h⟩:=cp h;obtain⟨b,ab,h⟩:=cp h;obtain⟨u,aG,a8⟩:=H.bE (x:=x) (by simp[Op.operands]) aa;obtain⟨w,a7,ba⟩:=H.bE (x:=y) (by simp[Op.operands]) ab;have ej:dw (di F) x=.val u:=aG;have q4:dw (di F) y=.val w:=a7;simp only[cF,ej,q4];exact akO aM h a8 ba λr af=>k _ (.val af)
 ·
  rename_i t x;unfold Yo at h;obtain⟨i,hi,h⟩:=cp h;obtain⟨a,aa,h⟩:=cp h;have ad:=H x (by simp[Op.operands]) _ aa;have x4:∀ q,a≠.b q:=λq e=>by subst e;cases h
  obtain⟨u,aG,a8⟩:=ad.wy x4;obtain⟨aS,l,vs,rfl,bl,ay,aC⟩:=wz hm a8 h;simp only[cF,hi,aG];exact⟨vs,bl,k _ (.val (Lz aC ay))⟩
 ·
  rename_i x;unfold Yp at h;split at h;·rename_i id off aa;cases h;obtain⟨u,aG,a8⟩:=(H x (by simp[Op.operands]) _ aa).wy (by simp);obtain⟨a,a2,rfl⟩:=a8.ptr;simp only[cF,aG];exact k _ (.val a8)
  ·rename_i id off aa;cases h;obtain⟨u,aG,a8⟩:=(H x (by simp[Op.operands]) _ aa).wy (by simp);have:=a8.qK;subst this;simp only[cF,aG];exact k _ (.val a8)
  ·cases h
 ·
  rename_i t x i;unfold Yq at h;obtain⟨r,af,h⟩:=cp h;obtain⟨a,aa,h⟩:=cp h;obtain⟨off,hh⟩:=r;obtain⟨bb,h⟩:=zU h;obtain⟨sa,sL,sz,cN,fm,av,aA,tC⟩:=Zl af;have ad:=H x (by simp[Op.operands]) _ aa;have x4:∀ q,a≠.b q:=λq e=>by subst e;cases h
  obtain⟨u,aG,a8⟩:=ad.wy x4;obtain⟨aS,rfl,ar,ah⟩:=Zj h a8;have g4:Nat.beq hh.size 0=false:=bb;simp only[cF,av,aA,tC,aG,g4,b'];exact k _ (.val ah)
 ·
  rename_i t x i;unfold Yr at h;split at h;·rename_i off hh cs az aa;obtain⟨sa,sL,sz,cN,fm,av,aA,tC⟩:=Zl az;obtain⟨u,aG,a8⟩:=H.bE (x:=x) (by simp[Op.operands]) aa;obtain⟨us,fE,rfl⟩:=a8.agg;obtain⟨ab,ak⟩:=Zk h fE;have ej:dw (di F) x=.val (.agg us.toArray):=aG;simp only[cF,av,ej,aA,tC];rw[show Nat.ble (off+hh.size) us.toArray.size=true from BX (by simpa using ab)];exact k _ (.val ak)
  ·cases h
 ·
  rename_i t x i;unfold Ys at h;obtain⟨r,af,h⟩:=cp h;obtain⟨a,aa,h⟩:=cp h;obtain⟨b,ab,h⟩:=cp h;obtain⟨j,ai,h⟩:=cp h;obtain⟨gb,rfl⟩:=EF ai;obtain⟨u,a7,ba⟩:=H.bE (x:=i) (by simp[Op.operands]) ab;rw[ba.int]at a7;have q4:dw (di F) i=.val (.int gb (.ofNat j)):=a7;obtain⟨HY,aF⟩:=r;rcases akR af with⟨sa,sL,sz,e,av,he,rfl⟩ | ⟨sa,sL,sz,n,e,av,he,rfl⟩;·have bd:Le a j aF.size=some v:=h;obtain⟨w,aG,a8⟩:=H.bE (x:=x) (by simp[Op.operands]) aa;obtain⟨aS,n,c,rfl,aV,ah⟩:=akQ bd a8;have ej:dw (di F) x=.val (.slice (some aS) n c):=aG;simp only[cF,av,q4,he,ej];exact⟨aS,j,rfl,rfl,aV,k _ (.val ah)⟩
  ·have bd:bW (Nat.blt j n) (HG a (Nat.mul j aF.size)) none=some v:=h;obtain⟨ag,bd⟩:=fU bd;have ad:=H x (by simp[Op.operands]) _ aa;have x4:∀ q,a≠.b q:=λq e=>by subst e;cases bd
   obtain⟨w,aG,a8⟩:=ad.wy x4;obtain⟨aS,rfl,ar,ah⟩:=Zj bd a8;simp only[cF,av,q4,he,aG];exact⟨j,rfl,bJ ag,k _ (.val ah)⟩
 ·
  rename_i t x i;cases aa:dg al x with
  |none=>rw[aa]at h;unfold HH at h;split at h<;>first | cases h | (rename_i e _;cases e)
  |some a=>
   cases ab:dg al i with
   |none=>rw[ab]at h;unfold HH at h;split at h<;>first | cases h | (rename_i e;cases e)
   |some b=>rw[aa,ab]at h;obtain⟨u,aG,a8⟩:=H.bE (x:=x) (by simp[Op.operands]) aa;obtain⟨w,a7,ba⟩:=H.bE (x:=i) (by simp[Op.operands]) ab;exact akS h a8 ba aG a7 k
 ·
  rename_i t parts;unfold Yu at h;split at h
  ·rename_i i vs av aC;obtain⟨z,bb,h⟩:=cp h;have g4:=bN.EA (D:=D) bb;obtain⟨us,aG,a8⟩:=H.parts (l:=parts.toList) (by intro y aE;simpa[Op.operands]using aE) aC;have ej:s4 (di F) parts.toList=some us:=aG
   try simp only at h
   split at h;·rename_i cN nT;obtain⟨jw,h⟩:=fU h;unfold HI at h;obtain⟨cs,ak,aJ⟩:=cp h;have dN:some (ao.a cs)=some v:=aJ;cases dN;obtain⟨a0,bB,b5⟩:=LA ak g4 a8;simp only[cF,av,ej,nT,jw,ca,bB];exact k _ (.val (.Lx b5))
   ·rename_i n e nT;obtain⟨aF,he,h⟩:=cp h;have bd:HI (zQ (λj=>some (j*aF.size,aF.size)) z vs)=some v:=h;unfold HI at bd;obtain⟨cs,ak,aJ⟩:=cp bd;have dN:some (ao.a cs)=some v:=aJ;cases dN;obtain⟨a0,bB,b5⟩:=LA ak g4 a8;simp only[cF,av,ej,nT,he,bB];exact k _ (.val (.Lx b5))
   ·cases h
  ·cases h
 ·
  rename_i f first captured
  unfold Yv at h;split at h
  ·rename_i g cN cs aa ab;cases h;obtain⟨us,aG,a8⟩:=H.mH (l:=first.toList) (by intro y aE;simp[Op.operands];exact .inl (by simpa using aE)) aa;obtain⟨ws,a7,ba⟩:=H.mH (l:=captured.toList) (by intro y aE;simp[Op.operands];exact .inr (by simpa using aE)) ab;have ej:jX (di F) first.toList=some us:=aG
   have q4:jX (di F) captured.toList=some ws:=a7;simp only[cF,ej,q4];exact k _ (.val (by simp only[aT];exact⟨us,ws,a8,ba,rfl⟩))
  ·cases h
 ·
  rename_i t x lo hi;cases aa:dg al x with
  |none=>rw[aa]at h;unfold HJ at h;split at h<;>first | cases h | (rename_i e _ _;cases e)
  |some a=>
   rw[aa]at h;cases ab:B6 (lo.map (dg al))with
   |none=>rw[ab]at h;unfold HJ at h;split at h<;>first | cases h | (rename_i e _;cases e)
   |some l=>
    rw[ab]at h;cases ak:B6 (hi.map (dg al))with
    |none=>rw[ak]at h;unfold HJ at h;split at h<;>first | cases h | (rename_i e;cases e)
    |some cv=>
     rw[ak]at h;obtain⟨u,aG,a8⟩:=H.bE (x:=x) (by simp[Op.operands]) aa;have ej:dw (di F) x=.val u:=aG;have eT:=Zm H (λy aE=>by subst aE;simp[Op.operands]) ab;have gw:=Zm H (λy aE=>by subst aE;simp[Op.operands]) ak;unfold HJ at h;split at h
     ·rename_i sa sL sz e ld z1 cX av cr ea ls;cases cr;cases ea;cases ls;obtain⟨aF,he,h⟩:=cp h;have bd:Qy aF a l cv=some v:=h;unfold Qy at bd;split at bd
      ·have el:lo.map (dw (di F))=none:=by
        rcases eT with⟨el,_⟩ | ⟨_,_,_,el⟩;·exact el
        ·cases el
       have o5:hi.map (dw (di F))=none:=by
        rcases gw with⟨o5,_⟩ | ⟨_,_,_,o5⟩;·exact o5
        ·cases o5
       have e2:∃ q n c,u=.slice q n c/\aT D v u:=by
        split at bd;·cases bd;exact⟨_,_,_,a8.Cc,a8⟩
        ·cases bd;obtain⟨q,_,rfl⟩:=a8.sJ;exact⟨_,_,_,rfl,a8⟩
        ·cases bd;obtain⟨q,_,_,rfl⟩:=a8.u6;exact⟨_,_,_,rfl,a8⟩
        ·cases bd;obtain⟨q,c,rfl⟩:=a8.Lw;exact⟨_,_,_,rfl,a8⟩
        ·cases bd
       obtain⟨q,n,c,rfl,ah⟩:=e2;simp only[cF,av,ej,he,el,o5,ue];exact k _ (.val ah)
      ·obtain⟨q,n,c,rfl,gz,gJ,qx,ah⟩:=akT bd a8;simp only[cF,av,ej,he,ue];rcases eT with⟨el,rfl⟩ | ⟨gy,HZ,el,rfl⟩<;>rcases gw with⟨o5,rfl⟩ | ⟨ak1,H0,o5,rfl⟩<;>simp only[el,o5]
       ·rename_i bn;exact(bn rfl rfl).elim
       ·simp only[uc,jV]at gz gJ ah;refine⟨0,H0,rfl,rfl,dz _,gJ,k _ (.val ?_)⟩;simp only[yZ,Kr]at ah;have dF:(if c=0 then q else q.map λx=>x.add 0)=q:=by
         split;·rfl
         ·cases q with
          |none=>rfl| some q=>simp[Addr.add]
        rw[dF]at ah;exact ah
       ·simp only[uc,jV]at gz gJ ah;exact⟨HZ,n,rfl,rfl,gz,cc _,k _ (.val ah)⟩
       ·simp only[uc,jV]at gz gJ ah;exact⟨HZ,H0,rfl,rfl,gz,gJ,k _ (.val ah)⟩
     ·rename_i sa sL sz str z1 cX av cr ea ls;cases cr;cases ea;cases ls;rw[a8.str]at ej;have bd:Qz str l cv=some v:=h;unfold Qz at bd;split at bd
      ·have el:lo.map (dw (di F))=none:=by
        rcases eT with⟨el,_⟩ | ⟨_,_,_,el⟩;·exact el
        ·cases el
       have o5:hi.map (dw (di F))=none:=by
        rcases gw with⟨o5,_⟩ | ⟨_,_,_,o5⟩;·exact o5
        ·cases o5
       cases bd;simp only[cF,av,ej,el,o5];exact k _ (.val (by simp only[aT]))
      ·obtain⟨ag,bd⟩:=fU bd;cases bd;rw[cB]at ag;have b1:=bJ ag.1;have b0:=bJ ag.2;have dj:(⟨str.toArray⟩:ByteArray).size=str.length:=by simp[ByteArray.size]
       simp only[cF,av,ej];rcases eT with⟨el,rfl⟩ | ⟨gy,HZ,el,rfl⟩<;>rcases gw with⟨o5,rfl⟩ | ⟨ak1,H0,o5,rfl⟩<;>simp only[el,o5]
       ·rename_i bn;exact(bn rfl rfl).elim
       ·simp only[uc,jV]at b1 b0;exact⟨0,H0,rfl,rfl,dz _,by rw[dj];exact b0,k _ (.val (by simp only[aT,uc,jV,Rc]))⟩
       ·simp only[uc,jV]at b1 b0;exact⟨HZ,str.length,rfl,by rw[dj];rfl,b1,by rw[dj];exact cc _,k _ (.val (by simp only[aT,uc,jV,Rc,dj]))⟩
       ·simp only[uc,jV]at b1 b0;exact⟨HZ,H0,rfl,rfl,b1,by rw[dj];exact b0,k _ (.val (by simp only[aT,uc,jV,Rc]))⟩
     ·cases h
 ·
  rename_i x i;unfold Yw at h;split at h;·rename_i vs aa;obtain⟨u,aG,a8⟩:=H.bE (x:=x) (by simp[Op.operands]) aa;obtain⟨us,fE,rfl⟩:=a8.Q2;rw[zX]at h;obtain⟨w,hw,ah⟩:=fE.get h;have ej:dw (di F) x=.val (.tuple us.toArray):=aG;simp only[cF,ej,hw];exact k _ (.val ah)
  ·cases h
 ·
  rename_i s d x;unfold Yx at h;split at h;·rename_i gb ez n ar aj aa;cases h;obtain⟨u,aG,a8⟩:=H.bE (x:=x) (by simp[Op.operands]) aa;rw[a8.int]at aG;have ej:dw (di F) x=.val (.int ez n):=aG;simp only[cF,ar,aj,ej];exact⟨_,rfl,k _ (.val (by simp only[aT];rw[zV]))⟩
  ·cases h
 ·
  rename_i b args fJ;exact akW aM h (by simpa[Op.operands,Call.operands]using H) k
 ·cases h
end
def bO.set(D:bO)(id:Nat)(a:Loc):bO:=λi=>if i=id then some a else D i
def bO.pS(D:bO)(id:Nat)(a:Loc):(D.set id a) id=some a:=by simp[bO.set]
def bO.le_refl(D:bO):D.le D:=λ_ _ h=>h
def bO.le_trans(h:D.le bC)(k:bC.le LI):D.le LI:=λi a e=>k _ _ (h _ _ e)
def bO.z2{id:Nat}(a:Loc)(h:D id=none):D.le (D.set id a):=λi b ag=>by
 unfold bO.set;split
 ·rename_i e;subst e;rw[h]at ag;cases ag
 ·exact ag
def bO.ext(D bC:bO)(n:Nat):Prop:=∀ i,i<n->bC i=D i
def bO.o6{n:Nat}:D.ext D n:=λ_ _=>rfl
def bO.EG{n:Nat}{a:Loc}:D.ext (D.set n a) n:=λi hi=>by unfold bO.set;rw[bU (by omega)]
section
variable{Y:gH}{D bC:bO}{m:bo}{I I':aI}{M M':List aD}{R:Type}
def HV.mono(h:HV G I)(bt:∀ b o,I b=some o->I' b=some o):HV G I':=λg cs au=>by obtain⟨arr,T,f,aa,ab⟩:=h g cs au;exact⟨arr,T,f,bt _ _ aa,ab⟩
def c8.le(h:c8 Y D m I M)(dr:D.ext bC m.n):D.le bC:=λi a a2=>by rw[dr i (h.jQ _ _ a2)];exact a2
def c8.step(h:c8 Y D m I M){a:Loc}(av:∀ id e,bm.get id=some e->(id=j/\dF=e)\/(id≠j/\m.t.get id=some e))(ai:bC j=some a)(bp:D.le bC)(dr:∀ i,i≠j->bC i=D i)(ak2:∀ id a,bC id=some a->id<fT)(bt:∀ b o,I b=some o->I' b=some o)(nr:∀ id e bM,id≠j->m.t.get id=some e->D id=some bM->∀ x∈M,x.num=bM.b->x∈M')
  (he:lC bC Y.E M' a dF) (Kp:∀ id e bM,id≠j->m.t.get id=some e->D id=some bM->bM.b≠a.b):c8 Y bC ⟨bm,fT⟩ I' M' where
 iQ id e cL au aa:=by
  rcases av id e au with⟨aG,a7⟩ | ⟨bn,au⟩;·subst aG;subst a7;rw[ai]at aa;cases aa;exact he
  ·rw[dr id bn]at aa;exact(h.iQ id e cL au aa).mono bp λx ad aB=>nr id e cL bn au aa x ad aB
 inj id iR e cW cL dW au kp aa ab ag:=by
  rcases av id e au with⟨aG,a7⟩ | ⟨bn,au⟩
  ·rcases av iR cW kp with⟨cr,ea⟩ | ⟨AX,kp⟩
   ·rw[aG,cr]
   ·rw[dr iR AX]at ab;subst aG;rw[ai]at aa;cases aa;exact(Kp iR cW dW AX kp ab ag.symm).elim
  ·rw[dr id bn]at aa;rcases av iR cW kp with⟨cr,ea⟩ | ⟨AX,kp⟩
   ·subst cr;rw[ai]at ab;cases ab;exact(Kp id e cL bn au aa ag).elim
   ·rw[dr iR AX]at ab;exact h.inj id iR e cW cL dW au kp aa ab ag
 jQ:=ak2
 qK:=h.qK.mono bt
def c8.fresh(h:c8 Y D m I M):D m.n=none:=by
 cases dr:D m.n with
 |none=>rfl| some a=>exact absurd (h.jQ _ _ dr) (Nat.lt_irrefl _)
def c8.aq(h:c8 Y D m I M){id:Nat}{e:fG}{a:Loc}(au:m.t.get id=some e)(a2:D id=some a):∃ x∈M,x.num=a.b:=by
 cases h.iQ id e a au a2 with
 |cells arr az aa=>exact⟨_,aa,rfl⟩| map l c aa=>exact⟨_,aa,rfl⟩| loop L aa=>exact⟨_,aa,rfl⟩| done L aa=>exact⟨_,aa,rfl⟩
def c8.new(h:c8 Y D m I M){a:Loc}{o:Obj}(av:∀ id e,bm.get id=some e->(id=m.n/\some dF=some e)\/(id≠m.n/\m.t.get id=some e))(aA:∀ x∈M,x.num≠a.b)
  (he:lC (D.set m.n a) Y.E (⟨a.b,o⟩::M) a dF):c8 Y (D.set m.n a) ⟨bm,m.n+1⟩ I (⟨a.b,o⟩::M):=
 h.step (λid e au=>(av id e au).imp (λh=>⟨h.1,o4 h.2⟩) λh=>h) (D.pS _ _) (bO.z2 a h.fresh) (λi hi=>by unfold bO.set;rw[bU hi])
  (λid b ag=>by
   unfold bO.set at ag;split at ag;·omega
   ·have:=h.jQ _ _ ag;omega)
  (λ_ _ h=>h) (λ_ _ _ _ _ _ x ad _=>nJ _ ad) he
  (λid e bM _ au Cd ag=>by
   obtain⟨x,ad,aB⟩:=h.aq au Cd;exact aA x ad (aB.trans ag))
def lC.new{l:List ao}{vs aR:List Value}{T c:Nat}{b:Nat}{cs:be ao}(nq:∀ j x,cs.get j=some x->(0<=j/\l[j-0]?=some x)\/((j<0\/0+l.length<=j)/\(be.nil:be ao).get j=some x))(ay:bN D l vs)
  (ae:∀ i,Y.E T=some i->(vs++aR).length=c*i.size) (ap:c<=maxLen):lC D Y.E (⟨b,.cells (vs++aR).toArray T (0,0)⟩::M) ⟨b,0,c⟩ (.cells cs T l.length):=by
 refine .cells (vs++aR).toArray rfl (by simp) (by simp[ay.len]) (λi v hi au=>?_) (λi hi=>by simpa using ae i hi) ap;rcases nq i v au with⟨_,aa⟩ | ⟨_,aa⟩
 ·obtain⟨x,ab,ak⟩:=ay.get (i:=i) (by simpa using aa);have aV:=(h5.1 ab).1;exact⟨x,by simp only[db,A'];rw[q' aV];exact ab,ak⟩
 ·cases aa
def H2{e:fG}{K:Nat->bo->Option R}{r:R}(h:B7 m e K=some r):∃ bm,(∀ id cW,bm.get id=some cW->(id=m.n/\some e=some cW)\/(id≠m.n/\m.t.get id=some cW))/\K m.n ⟨bm,m.n+1⟩=some r:=by unfold B7 at h;rw[QY]at h;obtain⟨bm,aa,ab⟩:=be.o2 (some e) m.t m.n;rw[aa]at h;exact⟨bm,ab,h⟩
def Rf{l:List ao}{T:Nat}{K:Nat->bo->Option R}{r:R}(h:u4 m l T K=some r):∃ m',K m.n m'=some r/\m'.n=m.n+1 /\
  ∀ {D:bO} {I:aI} {M:List aD} {vs:List Value} (aR:List Value) {b c:Nat},c8 Y D m I M->(∀ x∈M,x.num≠b)->bN D l vs->(∀ i,Y.E T=some i->(vs++aR).length=c*i.size)->c<=maxLen ->
   c8 Y (D.set m.n ⟨b,0,c⟩) m' I (⟨b,.cells (vs++aR).toArray T (0,0)⟩::M):=by
 unfold u4 at h;obtain⟨cs,aa,ab⟩:=be.x3 l (.nil:be ao) 0;rw[aa]at h;obtain⟨bm,ak,aJ⟩:=H2 h;refine⟨_,aJ,rfl,fun {D I M vs} aR {b c} hm aA ay ae ap=>?_⟩;exact hm.new (a:=⟨b,0,c⟩) ak aA (.new ab (ay.mono (bO.z2 _ hm.fresh)) ae ap)
end
def ak3(z:List Value)(n:Nat):rowOf z (z.length+n)=rowOf z z.length++rowOf z n:=by unfold rowOf;rw[List.range_add,cP,gO];congr 1;apply gM;intro i _;simp[Nat.add_mod_left]
def ak4(z:List Value):rowOf z z.length=z:=by
 unfold rowOf;apply nU
 ·simp
 ·intro i aa ab;simp only[g7,v7,P1 ab];simp[ab]
def Rg(z:List Value):∀ n,rowOf z (n*z.length)=(List.replicate n z).flatten
 |0=>by simp[rowOf]
 |n+1=>by rw[Nat.succ_mul,C4,ak3,ak4,Rg z n,GZ,Pe]
def Zn(place:Nat->Option (Nat×Nat)):∀ (vs:List (Nat×Value)) (cs r:List Value),s3 place cs vs=some r->r.length=cs.length
 |[],cs,r,h=>by simp only[s3]at h;cases h;rfl
 |(i,v)::vs,cs,r,h=>by
  simp only[s3]at h;split at h;·cases h
  ·rename_i off size aC;cases ag:(Nat.beq v.cells.size size&&Nat.ble (off+size) cs.length)with
   |false=>rw[ag]at h;cases h| true=>rw[ag]at h;simp only[ca]at h;rw[Zn place vs _ _ h];rw[cB]at ag;have aa:=dQ ag.1;have ab:=bJ ag.2;simp[ck];omega
def z3(dst:Option Nat)(u:Value)(F dk:Fr):Prop:=(∀ d,dst=some d->dk d=.val u)/\∀ (D:bO) t v,dst≠some t->gj D (F t) v->gj D (dk t) v
def z3.put(dst:Option Nat)(u:Value)(F:Fr):z3 dst u F (put dst (.val u) F):=by
 constructor
 ·rintro d rfl;simp[Go.V.put,fY]
 ·intro D t v bn h;cases dst with
  |none=>exact h| some d=>have:t≠d:=λe=>bn (by rw[e]);simp only[Go.V.put,fY,hp this,b'];exact h
def z3.p6(d:Nat)(u:Value)(F:Fr):z3 (some d) u F (fY (p6 F d) d (.val u)):=by
 constructor
 ·rintro _⟨⟩;simp[fY]
 ·intro D t v bn h;have:t≠d:=λe=>bn (by rw[e]);simp only[fY,hp this,b'];unfold Go.V.p6;rcases h with⟨ak5,e,h⟩ | ⟨q,e,h⟩
  ·rw[e];exact .inl ⟨ak5,rfl,h⟩
  ·rw[h];exact .inr ⟨q,e,rfl⟩
section
variable{X:cV}{G:GT}{pr:lU}{D:bO}{m:bo}{F:Fr}{al:be ao}{C:dB}{I:aI}{M:List aD}{K:gd}{o:Oper}
def Zo(aM:cU X.P X.E)(kn:∀ d,d<X.n->X.gx.contains d=true)(aj:∀ d,o.dst=some d->d<X.n){l:List ao}{T c:Nat}{mk:Nat->ao}(h:B9 X.E o al=some (l,T,c,mk))(H3:o.dst.isSome=true)(H:ji D F al o.op.operands.toList)
  (k:∀ b vs u dk C',I b=none->(∀ x∈M,x.num≠b)->bN D l vs->(∀ i,X.E T=some i->vs.length=c*i.size)->c<=maxLen->(∀ (bC:bO) id,bC id=some ⟨b,0,c⟩->aT bC (mk id) u)->z3 o.dst u F dk ->
   K dk C' I (⟨b,.cells vs.toArray T (0,0)⟩::M)):gT X o F C I M K:=by
 obtain⟨dst,op,ty,pos,after,guard⟩:=o;cases dst with
 |none=>cases H3
 |some d=>
  have ri:X.gx.contains d=true:=kn d (aj d rfl);have Zp:∀ (b c:Nat) (bC:bO) id,bC id=some ⟨b,0,c⟩->aT bC (.p id 0) (.pointer (some ⟨b,0,none⟩)):=λb c bC id lW=>by simp only[aT];exact⟨_,lW,rfl⟩
  unfold B9 at h;simp only at h H;split at h
  ·rename_i t x;unfold YF at h;obtain⟨i,hi,h⟩:=cp h;obtain⟨v,ah,h⟩:=cp h;obtain⟨ag,h⟩:=fU h;cases h;obtain⟨u,aG,a8⟩:=H.bE (x:=x) (by simp[Op.operands]) ah;have ap:=a8.cells;simp only[gT,aG,ri,ca];refine⟨λb aa ab=>?_⟩;have:=k b u.cells.toList (.pointer (some ⟨b,0,none⟩)) _ (jo C d none) aa ab ap (λgQ cX=>?_) (by decide) (Zp b 1) (.p6 d _ F)
   ·simpa using this
   ·rw[hi]at cX;cases cX;rw[ap.len,oy];exact dQ ag
  ·rename_i t;unfold YG at h;obtain⟨i,hi,h⟩:=cp h;obtain⟨z,bb,h⟩:=cp h;cases h;simp only[gT,hi,ri,ca];refine⟨λb aa ab=>?_⟩;exact k b i.zero (.pointer (some ⟨b,0,none⟩)) _ (jo C d none) aa ab (.EA bb) (λgQ cX=>by rw[hi]at cX;cases cX;rw[(aM _ _ hi).len,oy]) (by decide) (Zp b 1) (.p6 d _ F)
  ·rename_i t len parts;unfold YH at h;split at h
   ·rename_i sa sL sz e vs av aC;obtain⟨aF,he,h⟩:=cp h;obtain⟨z,bb,h⟩:=cp h;obtain⟨us,aG,a8⟩:=H.parts (l:=parts.toList) (by intro y aE;simpa[Op.operands]using aE) aC;simp only[gT,av,aG,he];have xC:=(aM _ _ he).len;cases ag:(Nat.ble (len*aF.size) 16777216&&Nat.blt 0 (len*aF.size))with
    |true=>
     have jq:(Nat.ble (Nat.mul len aF.size) 16777216&&Nat.blt 0 (Nat.mul len aF.size))=true:=ag;rw[kD,jq]at h;simp only[ca]at h |-;obtain⟨cs,ak,aJ⟩:=cp h;have dN:some (cs,e,len,λid=>ao.sl id 0 len len)=some (l,T,c,mk):=aJ;cases dN;have BN:bN D (B8 c z) (rowOf aF.zero (c*aF.size)):=by rw[<-xC,Rg];exact(bN.EA bb).GJ c
     obtain⟨a0,bB,b5⟩:=LA ak BN a8;rw[bB];refine⟨λb aa ab=>?_⟩;have c2:a0.length=c*aF.size:=by rw[Zn _ _ _ _ bB];simp[rowOf]
     rw[cB]at ag;have hk:=bJ ag.1;have gU:0<c*aF.size:=bJ ag.2;exact k b a0 (.slice (some ⟨b,0,none⟩) c c) _ C aa ab b5 (λgQ cX=>by rw[he]at cX;cases cX;exact c2)
      (by
       have dZ:0<aF.size:=Nat.pos_of_mul_pos_left gU;have:c<=c*aF.size:=Nat.le_mul_of_pos_right _ dZ;simp only[maxLen];omega)
      (λbC id lW=>by simp only[aT];exact⟨_,lW,rfl⟩) (.put _ _ F)
    |false=>
     have jq:(Nat.ble (Nat.mul len aF.size) 16777216&&Nat.blt 0 (Nat.mul len aF.size))=false:=ag;rw[kD,jq]at h;simp only[b']at h |-;obtain⟨ap,h⟩:=fU h;cases h;rw[cB]at ap;have ak:=dQ ap.1;subst ak;have aJ:vs=[]:=by simpa using ap.2
     subst aJ;cases a8;simp only;refine⟨λb aa ab=>?_⟩;exact k b [] (.slice (some ⟨b,0,none⟩) 0 0) _ C aa ab .nil (λgQ cX=>by simp) (by decide) (λbC id lW=>by simp only[aT];exact⟨_,lW,rfl⟩) (.put _ _ F)
   ·cases h
  ·rename_i t dL c';unfold YI at h;split at h
   ·rename_i sa sL sz e hb auL av aa ab;obtain⟨aF,he,h⟩:=cp h;obtain⟨n,aB,h⟩:=cp h;obtain⟨q,aP,h⟩:=cp h;obtain⟨z,bb,h⟩:=cp h;obtain⟨ag,h⟩:=fU h;cases h;obtain⟨ez,rfl⟩:=EF aB;obtain⟨cJ,rfl⟩:=EF aP;obtain⟨wB,aG,a8⟩:=H.bE (x:=dL) (by simp[Op.operands]) aa;obtain⟨rT,a7,ba⟩:=H.bE (x:=c') (by simp[Op.operands]) ab;rw[a8.int]at aG;rw[ba.int]at a7;simp only[cB]at ag;simp only[gT,av,aG,a7,he];refine⟨n,c,rfl,rfl,bJ ag.1,bJ ag.2.1,bJ ag.2.2,⟨λb ak aJ=>?_⟩⟩;have xC:=(aM _ _ he).len;have BN:bN D (B8 c z) (rowOf aF.zero (c*aF.size)):=by rw[<-xC,Rg];exact(bN.EA bb).GJ c
    exact k b _ (.slice (some ⟨b,0,none⟩) n c) _ C ak aJ BN (λgQ cX=>by rw[he]at cX;cases cX;simp[rowOf]) (bJ ag.2.2) (λbC id lW=>by simp only[aT];exact⟨_,lW,rfl⟩) (.put _ _ F)
   ·cases h
  ·cases h
end
def Zq{vs:List Value}{i:Nat}(h:off+vs.length<=cs.length):(ck cs off vs)[i]?=if off<=i/\i<off+vs.length then vs[i-off]? else cs[i]?:=by
 unfold ck;by_cases aa:i<off
 ·rw[bU (by omega),q' (by simp;omega),q' (by simp;omega),k6,bQ aa]
 ·by_cases ab:i<off+vs.length
  ·rw[bQ ⟨by omega,ab⟩,q' (by simp;omega),mT (by simp;omega)];simp;congr 1;omega
  ·rw[bU (by omega),mT (by simp;omega),nj];congr 1;simp;omega
def Rh{vs:List Value}(h:off+vs.length<=cs.length):(ck cs off vs).length=cs.length:=by simp[ck];omega
section
variable{Y:gH}{D:bO}{m:bo}{I:aI}{M:List aD}{R:Type}
def Ri{x:ao}{l:List ao}{K:bo->Option R}{r:R}(h:x1 m x l K=some r):∃ m',K m'=some r/\m'.n=m.n/\(∀ id,m'.t.get id≠none->m.t.get id≠none\/True) /\
  ∀ {D:bO} {I:aI} {M:List aD} {u:Value} {vs:List Value},c8 Y D m I M->aT D x u->bN D l vs ->
   ∃ (g off:Nat) (a9 post:List aD) (arr:Array Value) (T:Nat),u=.pointer (some ⟨g,off,none⟩)/\M=a9++⟨g,.cells arr T (0,0)⟩::post/\off+vs.length<=arr.size/\gm vs=true /\ (∃ id e a,m.t.get id=some e/\D id=some a/\a.b=g) /\
    c8 Y D m' I (a9++⟨g,.cells (ck arr.toList off vs).toArray T (0,0)⟩::post):=by
 unfold x1 at h;split at h
 ·rename_i id off;split at h
  ·rename_i cs T fH au;cases ag:(Nat.ble (Nat.add off l.length) fH&&l.all ao.one)with
   |false=>rw[ag]at h;cases h
   |true=>
    rw[ag]at h;simp only[ca]at h;rw[cB]at ag;have z4:off+l.length<=fH:=bJ ag.1;obtain⟨cs',aa,ab⟩:=be.x3 l cs off;rw[aa]at h;obtain⟨bm,ak,aJ⟩:=be.o2 (some (fG.cells cs' T fH)) m.t id;rw[ak]at h;refine⟨_,h,rfl,λ_ _=>.inr trivial,fun {D I M u vs} hm ad ay=>?_⟩;obtain⟨a,a2,rfl⟩:=ad.ptr;have he:=hm.iQ _ _ _ au a2;obtain⟨arr,aH,a',dj,ap,ae,ij⟩:=he;have c2:=ay.len;obtain⟨a9,post,dK⟩:=u9 a';have js:off+vs.length<=arr.size:=by omega
    refine⟨a.b,off,a9,post,arr,T,by rw[aH,db],dK,js,ay.one ag.2,⟨id,_,a,au,a2,rfl⟩,?_⟩;have e4:∀ x∈M,x.num≠a.b->x∈a9++⟨a.b,.cells (ck arr.toList off vs).toArray T (0,0)⟩::post:=λx ad aB=>by
     rw[dK]at ad;rcases cE.1 ad with ad | ad;·exact cE.2 (.inl ad)
     ·rcases ee.1 ad with rfl | ad
      ·exact(aB rfl).elim
      ·exact cE.2 (.inr (nJ _ ad))
    refine hm.step (λi e hi=>(aJ i e hi).imp (λq=>⟨q.1,o4 q.2⟩) λq=>q) a2 (bO.le_refl D) (λ_ _=>rfl) hm.jQ (λ_ _ h=>h) (λi e bM bn hi oV x ad aB=>e4 x ad ?_) ?_ ?_;·rw[aB];exact λag=>bn (hm.inj _ _ _ _ _ _ hi au oV a2 ag)
    ·have z5:(ck arr.toList off vs).length=arr.size:=by rw[Rh (by simpa using js)];simp
     refine .cells (ck arr.toList off vs).toArray aH (by simp) (by simp[z5];exact dj) (λi v hi va=>?_) (λi hi=>by simp[z5];exact ae i hi) ij;rw[aH,db];simp only[A'];rw[Zq (by simpa using js)];rcases ab i v va with⟨a8,ba⟩ | ⟨a8,ba⟩;·have aV:=(h5.1 ba).1;rw[bQ ⟨a8,by omega⟩];exact ay.get ba
     ·rw[bU (by omega)];have:=ap i v hi ba;rw[aH,db]at this;simpa using this
    ·intro i e bM bn hi oV ag;exact bn (hm.inj _ _ _ _ _ _ hi au oV a2 ag)
  ·cases h
 ·cases h
def Rj:∀ {l:List ao} {bK:List UInt8} {vs:List Value},Er l=some bK->bN D l vs->vs=bK.map (λb=>.int .u8 b.toNat)
 |[],bK,vs,h,ay=>by simp only[Er]at h;cases h;exact ay.nI
 |v::l,bK,vs,h,ay=>by
  unfold Er at h;split at h;·rename_i e;cases e
  ·rename_i n dL e;cases e;cases ag:Nat.ble n 255 with
   |false=>rw[ag]at h;cases h
   |true=>
    rw[ag]at h;simp only[ca]at h;split at h;·rename_i r af;cases h;obtain⟨x,xs,aa,ab,rfl⟩:=ay.kE;have aB:=bJ ag;rw[Rj af ab,aa.int];simp only[cb,xz,and_true,Value.int.injEq,true_and];rw[UInt8.toNat_ofNat_of_lt' (show n<256 by omega)];rfl
    ·cases h
  ·cases h
inductive z6:TypeDesc->ao->Prop
 |int{k n}:z6 (.int k) (.i k n)| str {l}:z6 .string (.s l)
def Zr(aM:cU P E){k:Nat}{y:ao}(h:Lk (E k) y=true):∃ d,P.underlying k=some d/\z6 d y:=by
 unfold Lk at h;split at h
 ·rename_i gb eZ n ae;have:=IntKind.Da h;subst this;obtain⟨d,hu,aj⟩:=(aM _ _ ae).fl;refine⟨d,hu,?_⟩;have:d=.int gb:=by cases d<;>simp_all[fk]
  subst this;exact .int
 ·rename_i l ae;obtain⟨d,hu,aj⟩:=(aM _ _ ae).fl;refine⟨d,hu,?_⟩;have:d=.string:=by cases d<;>simp_all[fk]
  subst this;exact .str
 ·cases h
def z6.isKey{d:TypeDesc}{y:ao}(h:z6 d y)(aE:aT D y u):MapKept.IsKey d u:=by
 cases h with
 |int=>rw[aE.int];rfl| str=>rw[aE.str];trivial
def Zs(a b:ByteArray):(a == b)=decide (a=b):=by rw[r6,MapKept.bytes_beq];simp
def EH{d:TypeDesc}{y x:ao}{w:Value}{r:Bool}(h:z6 d y)(aE:aT D y u)(ad:aT D x w)(he:El y x=some r):Instr.sameNow d u w=some r:=by
 cases h with
 | @int k n=>
  rw[aE.int];unfold El at he;split at he;·rename_i e;cases e
  ·rename_i ez a cJ b e;cases e;obtain⟨aa,ab⟩:=fU he;have:=IntKind.Da aa;subst this;cases ab;rw[ad.int];simp only[Instr.sameNow,p2,Cb];congr 1
  ·rename_i e;cases e
  ·cases he
 | @str l=>
  rw[aE.str];unfold El at he;split at he;·rename_i e;cases e
  ·rename_i e;cases e
  ·rename_i a b e;cases e;cases he;rw[ad.str];simp only[Instr.sameNow];rw[Zs,LB,Ez]
  ·cases he
def Zt{d:TypeDesc}{y:ao}{u:Value}(h:z6 d y)(aE:aT D y u):∀ {es:List (ao×ao)} {l:List MapEntry} {r:Option ao} (i:Nat),qM D es l->HL y es=some r ->
  match r with
  |none=>Instr.findNow d u l i=some none| some v=>∃ j w,Instr.findNow d u l i=some (some (j,w))/\aT D v w
 |[],_,r,i,.nil,ay=>by simp only[HL]at ay;cases ay;rfl
 |(x,v)::es,_,r,i,.cons (e:=e) (l:=l) ae ah t,ay=>by
  simp only[HL]at ay;split at ay;·rename_i he;cases ay;refine⟨i,e.val,?_,ah⟩;simp only[Instr.findNow,EH h aE ae he]
  ·rename_i he;have aN:=Zt h aE (i+1) t ay;simp only[Instr.findNow,EH h aE ae he];exact aN
  ·cases ay
def Zu{d:TypeDesc}{y v:ao}{u w:Value}(h:z6 d y)(aE:aT D y u)(ah:aT D v w):∀ {es vb:List (ao×ao)} {l:List MapEntry} (i:Nat),qM D es l->HM y v es=some vb -> (Instr.findNow d u l i=some none/\∀ b,qM D vb (l++[{ key:=u,val:=w,born:=b }])) \/ ∃ j e,Instr.findNow d u l i=some (some (i+j,e.val))/\l[j]?=some e/\Instr.sameNow d u e.key=some true/\qM D vb (l.modify j λe=>{ e with key:=u,val:=w })
 |[],vb,_,i,.nil,ay=>by simp only[HM]at ay;cases ay;exact .inl ⟨rfl,λb=>.cons aE ah .nil⟩
 |(x,u')::es,vb,_,i,.cons (e:=e) (l:=l) ae jZ t,ay=>by
  simp only[HM]at ay;split at ay
  ·rename_i he;cases ay;refine .inr ⟨0,e,?_,rfl,EH h aE ae he,?_⟩
   ·simp only[Instr.findNow,EH h aE ae he,pk]
   ·simp only[List.modify_zero_cons];exact .cons aE ah t
  ·rename_i he;split at ay
   ·rename_i r af;cases ay;rcases Zu h aE ah (i+1) t af with⟨aa,ab⟩ | ⟨j,cW,aa,ab,ak,aJ⟩
    ·refine .inl ⟨?_,λb=>.cons ae jZ (ab b)⟩;simp only[Instr.findNow,EH h aE ae he];exact aa
    ·refine .inr ⟨j+1,cW,?_,by simpa using ab,ak,?_⟩
     ·simp only[Instr.findNow,EH h aE ae he];rw[aa];congr 3;omega
     ·simp only[List.modify_succ_cons];exact .cons ae jZ aJ
   ·cases ay
  ·cases ay
end
section
variable{P:Program}{w:World}
def ak6{k:Nat}(av:P.underlying t=some (.map k e)){d:TypeDesc}(ae:P.underlying k=some d)(wC:MapKept.IsKey d u){l:List MapEntry}(au:w.heap[g]?=some (.map l.toArray clock))
  {q:Option (Nat×Value)} (aA:Instr.findNow d u l 0=some q) {inf:TypeInfo} {z:Value} (hi:P.info? e=some inf) (bb:inf.zero=some z) (ok:Bool) :
  (Instr.lookup t (.map (some g)) u ok).run P w=.ok (bif ok then .tuple #[(q.map (·.2)).getD z,.bool q.isSome]else(q.map (·.2)).getD z) w:=by
 have ap:(Instr.checkKey l.toArray.isEmpty 10000 k u).run P w=.ok () w:=Dw ae wC _ 9999;have uV:(Instr.findKey k u l).run P w=.ok q w:=Dx ae aA;have LK:(zeroValue e).run P w=.ok z w:=by simp[zeroValue,typeInfo,hi,bb]
 unfold Instr.lookup;simp only[cj,run_underlying av,bV,Dv au,c0,ap,uV];cases q with
 |none=>cases ok<;>simp[LK]
 |some p=>cases ok<;>simp
def ak7{k:Nat}(av:P.underlying t=some (.map k e)){d:TypeDesc}(ae:P.underlying k=some d){v:Value}(wC:MapKept.IsKey d u){l:List MapEntry}(au:w.heap[g]?=some (.map l.toArray clock))
  (aA:Instr.findNow d u l 0=some none):(Instr.mapUpdate t (.map (some g)) u v).run P w=.ok () { w with heap:=w.heap.setIfInBounds g (.map (l++[({ key:=u,val:=v,born:=clock }:MapEntry)]).toArray (clock+1)) }:=by
 have ap:(Instr.checkKey false 10000 k u).run P w=.ok () w:=Dw ae wC _ 9999;have uV:(Instr.findKey k u l).run P w=.ok none w:=Dx ae aA;unfold Instr.mapUpdate;simp only[cj,run_underlying av,bV,Dv au,ap,uV,OD _ au];congr 3;simp
def ak8{k:Nat}(av:P.underlying t=some (.map k e)){d:TypeDesc}(ae:P.underlying k=some d){v:Value}(wC:MapKept.IsKey d u){l:List MapEntry}(au:w.heap[g]?=some (.map l.toArray clock))
 {cW:MapEntry} (aA:Instr.findNow d u l 0=some (some (j,cW.val))) (ai:l[j]?=some cW) (ar:cW.key=u) :
  (Instr.mapUpdate t (.map (some g)) u v).run P w=.ok () { w with heap:=w.heap.setIfInBounds g (.map (l.modify j λe=>{ e with key:=u,val:=v }).toArray clock) }:=by
 have ap:(Instr.checkKey false 10000 k u).run P w=.ok () w:=Dw ae wC _ 9999;have uV:(Instr.findKey k u l).run P w=.ok (some (j,cW.val)) w:=Dx ae aA;have eu:(Instr.keyThatStays u u).run P w=.ok u w:=MapKept.run_keyThatStays wC;unfold Instr.mapUpdate;simp only[cj,run_underlying av,bV,Dv au,ap,uV];simp only[A',ai,k8,jV,ar,eu,bV,OD _ au];congr 3;show Obj.map _ _=Obj.map _ _;congr 1;apply gS;simp
end
section
variable{X:cV}{G:GT}{pr:lU}{D:bO}{m m':bo}{F:Fr}{al:be ao}{C:dB}{I:aI}{M:List aD}{K:gd}{o:Oper}{v:ao}
def rU(X:cV)(G:GT)(pr:lU)(D:bO)(m:bo)(I:aI)(M:List aD)(v:ao)(m':bo)(dst:Option Nat)(F:Fr)(C:dB)(K:gd):Prop:=
 ∀ bC u M',D.ext bC m.n->aT bC v u->c8 (dM X G pr) bC m' I M'->K (put dst (.val u) F) C I M'
def ak9(aH:o.op=.store t x y)(h:bq o.dst (Li (X.E t) m (dg al x) (dg al y)) (λ_=>none)=some (v,m'))(H:ji D F al o.op.operands.toList)(hm:c8 (dM X G pr) D m I M)
  (k:rU X G pr D m I M v m' o.dst F C K):gT X o F C I M K:=by
 obtain⟨dst,op,ty,pos,after,guard⟩:=o;simp only at aH;subst aH;cases dst with
 |some d=>cases h
 |none=>
  have aa:Li (X.E t) m (dg al x) (dg al y)=some (v,m'):=h;unfold Li at aa;obtain⟨i,hi,aa⟩:=cp aa;obtain⟨a,ad,aa⟩:=cp aa;obtain⟨b,aE,aa⟩:=cp aa;obtain⟨ag,aa⟩:=fU aa;obtain⟨m2,ab,-,-,ak⟩:=Ri (Y:=dM X G pr) aa;cases ab;simp only at H;have Ce:=H x (by simp[Op.operands]) _ ad;have x4:∀ q,a≠.b q:=λq e=>by subst e;cases aa
  obtain⟨u,aG,a8⟩:=Ce.wy x4;obtain⟨w,a7,ba⟩:=H.bE (x:=y) (by simp[Op.operands]) aE;obtain⟨g,off,a9,post,arr,T,rfl,a',js,pq,⟨id,e,g9,lW,DK,au⟩,ke⟩:=ak hm a8 ba.cells;simp only[gT,hi,a7,aG];have dj:Nat.beq w.cells.size i.size=true:=by have:=ba.cells.len;rw[yW]at this;rw[this];exact ag
  rw[dj];simp only[ca];refine⟨a9,post,arr,T,a',rfl,js,pq,?_⟩;exact k D (.tuple #[]) _ bO.o6 (by simp only[aT];exact⟨[],.nil,rfl⟩) ke
def Zv(aj:∀ d,o.dst=some d->d<X.n)(bI:∀ c,o.op≠.defer c)
  (h:∀ (β:Nat->Nat) (a:Act) (w:World),cH X β a w F C I M->∃ u w' I' M',(execOp a.eval o).run X.P w=.ok (.value u) w'/\cH X β a w' F C I' M'/\K (put o.dst (.val u) F) C I' M'):bw X o F C I M K:=by
 refine⟨λa w Q ⟨β,aW⟩=>?_⟩;obtain⟨u,w',I',M',aa,ab,ak⟩:=h β a w aW;exact iV bI aa ⟨_,_,_,_,⟨β,ab.put (x:=.val u) aj rfl⟩,ak⟩
def ala(aj:o.dst=none)(bI:∀ c,o.op≠.defer c)
  (h:∀ (β:Nat->Nat) (a:Act) (w:World),cH X β a w F C I M->∃ w' I' M',(execOp a.eval o).run X.P w=.ok .skip w'/\cH X β a w' F C I' M'/\K F C I' M'):bw X o F C I M K:=by
 refine⟨λa w Q ⟨β,aW⟩=>?_⟩;obtain⟨w',I',M',aa,ab,ak⟩:=h β a w aW;refine C8 bI aa ⟨_,_,_,_,⟨β,?_⟩,ak⟩;rw[aj];exact ab
def Zw(aM:cU X.P X.E)(aj:∀ d,o.dst=some d->d<X.n){r:Option Operand}(aH:o.op=.makeMap t r)(h:Lj (X.E t) m=some (v,m'))(af:∀ x,r=some x->∃ k n,bE F x=.val (.int k n))(hm:c8 (dM X G pr) D m I M)
  (k:rU X G pr D m I M v m' o.dst F C K):bw X o F C I M K:=by
 unfold Lj at h;split at h
 ·rename_i sa sL sz gb e av;obtain⟨d,fF,fi⟩:=(aM _ _ av).fl;have aa:d=.map gb e:=by cases d<;>simp_all[fk]
  subst aa;obtain⟨bm,ab,ak⟩:=H2 h;cases ak;refine Zv aj (by rw[aH];simp) fun β a w aW=>?_;refine⟨.map (some w.heap.size),w.alloc (.map #[] 0),I,⟨w.heap.size,.map #[] 0⟩::M,?_,aW.nS _,?_⟩
  ·unfold execOp;cases r with
   |none=>simp[aH,Instr.makeMap]| some x=>obtain⟨ez,qq,ad⟩:=af x rfl;have O8:=dc aW.al ad;simp[aH,O8,Instr.makeMap,run_underlying fF,asInt,oo]
  ·have aA:∀ x∈M,x.num≠w.heap.size:=aW.holds.q1;refine k _ _ _ bO.EG (by simp only[aT];exact⟨_,bO.pS _ _ ⟨w.heap.size,0,0⟩,rfl⟩) (hm.new (a:=⟨w.heap.size,0,0⟩) ab aA ?_);exact .map [] 0 (by simp) .nil
 ·cases h
def lC.Zx{a:Loc}{es:List (ao×ao)}(h:lC D E M a (.map es)):∃ l clock,(⟨a.b,.map l.toArray clock⟩:aD)∈M/\qM D es l:=by
 cases h with
 |map l clock aa ab=>exact⟨l,clock,aa,ab⟩
def aT.map'{id:Nat}(h:aT D (.m id) u):∃ a,D id=some a/\u=.map (some a.b):=by simpa only[aT]using h
def alb(aM:cU X.P X.E)(aj:∀ d,o.dst=some d->d<X.n){ok:Bool}(aH:o.op=.lookup t x y ok)(h:QI X.P X.E t m (dg al x) (dg al y) ok=some (v,m'))(H:ji D F al o.op.operands.toList)
  (hm:c8 (dM X G pr) D m I M) (k:rU X G pr D m I M v m' o.dst F C K):bw X o F C I M K:=by
 unfold QI at h;split at h
 ·rename_i sa sL sz gb e id alc av aa ab;obtain⟨wC,h⟩:=fU h;split at h
  ·rename_i es au;obtain⟨r,af,h⟩:=cp h;obtain⟨inf,hi,h⟩:=cp h;obtain⟨z,bb,h⟩:=cp h;obtain⟨s9,A4,h⟩:=cp h;cases h;obtain⟨d,fF,fi⟩:=(aM _ _ av).fl;have fy:d=.map gb e:=by cases d<;>simp_all[fk]
   subst fy;obtain⟨dd,sB,Cf⟩:=Zr aM wC;rw[aH]at H;obtain⟨wB,aG,a8⟩:=H.bE (x:=x) (by simp[Op.operands]) aa;obtain⟨rT,a7,ba⟩:=H.bE (x:=y) (by simp[Op.operands]) ab;obtain⟨a,a2,rfl⟩:=a8.map';have he:=hm.iQ _ _ _ au a2;obtain⟨l,clock,a',Rk⟩:=he.Zx;have kt:=Zt Cf ba 0 Rk af;have LK:aT D s9 z:=.of A4;have fin:∀ {q:Option (Nat×Value)},Instr.findNow dd rT l 0=some q->(r=none/\q=none\/∃ H4 j w,r=some H4/\q=some (j,w)/\aT D H4 w)->bw X o F C I M K:=fun {q} aA aP=>by
    refine Zv aj (by rw[aH];simp) fun β ac w aW=>?_;have e9:=ak6 (P:=X.P) (w:=w) fF sB (Cf.isKey ba) (aW.holds.m _ a') aA hi bb ok;have ex:=dc aW.al aG;have oE:=dc aW.al a7;refine⟨bif ok then .tuple #[(q.map (·.2)).getD z,.bool q.isSome]else(q.map (·.2)).getD z,w,I,M,?_,aW,k D _ M bO.o6 ?_ hm⟩;·unfold execOp;simp only[aH,ex,oE,cj,e9,bV,c0]
    ·unfold YJ;rcases aP with⟨rfl,rfl⟩ | ⟨H4,j,w',rfl,rfl,ah⟩
     ·cases ok
      ·exact LK
      ·exact .Ly (.cons LK (.cons (by simp only[aT];rfl) .nil))
     ·cases ok
      ·exact ah
      ·exact .Ly (.cons ah (.cons (by simp only[aT];rfl) .nil))
   cases r with
   |none=>exact fin kt (.inl ⟨rfl,rfl⟩)| some H4=>obtain⟨j,w,aA,ah⟩:=kt;exact fin aA (.inr ⟨H4,j,w,rfl,rfl,ah⟩)
  ·cases h
 ·cases h
def Zy(aM:cU X.P X.E){z:Operand}(aH:o.op=.mapUpdate t x y z\/o.op=.insert t x y z)(h:bq o.dst (HN X.E t m (dg al x) (dg al y) (dg al z)) (λ_=>none)=some (v,m'))(H:ji D F al o.op.operands.toList)
  (hm:c8 (dM X G pr) D m I M) (k:rU X G pr D m I M v m' o.dst F C K):bw X o F C I M K:=by
 cases H3:o.dst with
 |some d=>rw[H3]at h;cases h
 |none=>
  rw[H3]at h k;have az:HN X.E t m (dg al x) (dg al y) (dg al z)=some (v,m'):=h;have vP:∀ q,q=x\/q=y\/q=z->q∈o.op.operands.toList:=λq aP=>by
   rcases aH with aH | aH<;>rw[aH]<;>simp[Op.operands]<;>exact aP
  unfold HN at az;split at az
  ·rename_i sa sL sz gb e id alc s9 av aa ab ak;obtain⟨wC,az⟩:=fU az;split at az
   ·rename_i es au;obtain⟨vb,kw,az⟩:=cp az;obtain⟨bm,aJ,bB⟩:=be.o2 (some (fG.map vb)) m.t id;have g5:(m.t.nH (some (fG.map vb)) id λt=>some (ao.t [],(⟨t,m.n⟩:bo)))=some (v,m'):=az;rw[aJ]at g5;cases g5;obtain⟨d,fF,fi⟩:=(aM _ _ av).fl;have fy:d=.map gb e:=by cases d<;>simp_all[fk]
    subst fy;obtain⟨dd,sB,Cf⟩:=Zr aM wC;obtain⟨wB,aG,a8⟩:=H.bE (x:=x) (vP x (.inl rfl)) aa;obtain⟨rT,a7,ba⟩:=H.bE (x:=y) (vP y (.inr (.inl rfl))) ab;obtain⟨z7,cr,bP⟩:=H.bE (x:=z) (vP z (.inr (.inr rfl))) ak;obtain⟨a,a2,rfl⟩:=a8.map';have he:=hm.iQ _ _ _ au a2;obtain⟨l,clock,a',Rk⟩:=he.Zx;have fin:∀ (dL:List MapEntry) (Cg:Nat),qM D vb dL->(∀ w:World,w.heap[a.b]?=some (.map l.toArray clock)->(Instr.mapUpdate t (.map (some a.b)) rT z7).run X.P w=.ok () { w with heap:=w.heap.setIfInBounds a.b (.map dL.toArray Cg) }) ->
      bw X o F C I M K:=λdL Cg ou e9=>by
     obtain⟨a9,post,dK⟩:=u9 a';have mz:M.Perm (⟨a.b,.map l.toArray clock⟩::(a9++post)):=by rw[dK];exact mv
     refine ala H3 (by rcases aH with aH | aH<;>rw[aH]<;>simp) fun β ac w iu=>?_;have aW:cH X β ac w F C I (⟨a.b,.map l.toArray clock⟩::(a9++post)):=iu.hS (.perm mz .refl);have tN:=iu.holds.m _ a';have ex:=dc aW.al aG;have oE:=dc aW.al a7;have O9:=dc aW.al cr;have gW:=MapKept.heap_set (o':=Obj.map dL.toArray Cg) tN;refine⟨_,I,⟨a.b,.map dL.toArray Cg⟩::(a9++post),?_,aW.swap (w':={ w with heap:=w.heap.setIfInBounds a.b (.map dL.toArray Cg) }) (by simp) gW.1 gW.2 ⟨rfl,rfl⟩,?_⟩
     ·unfold execOp;rcases aH with aH | aH<;>simp only[aH,ex,oE,O9,cj,e9 w tN,bV,c0]
     ·have nv:∀ q∈M,q.num≠a.b->q∈(⟨a.b,.map dL.toArray Cg⟩:aD)::(a9++post):=λq aP aB=>by
       rcases ee.1 (mz.mem_iff.1 aP)with rfl | aP;·exact(aB rfl).elim
       ·exact nJ _ aP
      refine k D (.tuple #[]) _ bO.o6 (by simp only[aT];exact⟨[],.nil,rfl⟩) ?_;refine hm.step (λi e hi=>(bB i e hi).imp (λq=>⟨q.1,o4 q.2⟩) λq=>q) a2 (bO.le_refl D) (λ_ _=>rfl) hm.jQ (λ_ _ h=>h) (λi e bM bn hi oV q aP aB=>nv q aP ?_) (.map dL Cg (by simp) ou) ?_;·rw[aB];exact λag=>bn (hm.inj _ _ _ _ _ _ hi au oV a2 ag)
      ·exact λi e bM bn hi oV ag=>bn (hm.inj _ _ _ _ _ _ hi au oV a2 ag)
    rcases Zu Cf ba bP 0 Rk kw with⟨aA,e4⟩ | ⟨j,cW,aA,ai,ar,KO⟩;·exact fin _ (clock+1) (e4 clock) λw tN=>ak7 fF sB (Cf.isKey ba) tN aA
    ·rw[db]at aA;have xE:cW.key=rT:=by
      cases Cf with
      |int=>
       have:=ba.int;subst this;cases ae:cW.key<;>rw[ae]at ar<;>simp[Instr.sameNow]at ar
       obtain⟨rfl,h⟩:=ar;rw[h]
      |str=>
       have:=ba.str;subst this;cases ae:cW.key<;>rw[ae]at ar<;>simp[Instr.sameNow,Zs]at ar
       rw[ar]
     exact fin _ clock KO λw tN=>ak8 fF sB (Cf.isKey ba) tN aA ai xE
   ·cases az
  ·cases az
end
section
variable{X:cV}{G:GT}{pr:lU}{D:bO}{m m':bo}{F:Fr}{al:be ao}{C:dB}{I:aI}{M:List aD}{K:gd}{o:Oper}{v:ao}
def Zz(aM:cU X.P X.E)(aj:∀ d,o.dst=some d->d<X.n){s d e:Nat}(aH:o.op=.convert s d x){dW b0:Nat}{Rl:List Value}(ar:X.E s=some ⟨cL,b1,z0,.slice e⟩)(fy:X.E d=some ⟨dW,b0,Rl,.string⟩)(ag:Eo (X.E e)=true)
  {id off n:Nat} (h:Ll G m id off n=some (v,m')) (ad:∃ a c,D id=some a/\bE F x=.val (.slice (some ⟨a.b,a.o+off,none⟩) n c)) (hm:c8 (dM X G pr) D m I M)
  (k:rU X G pr D m I M v m' o.dst F C K):bw X o F C I M K:=by
 unfold Ll at h;obtain⟨a,c,a2,ex⟩:=ad;obtain⟨aS,l,vs,aG,bl,ay,h⟩:=wz (u:=.pointer (some ⟨a.b,a.o+off,none⟩)) hm (by simp only[aT];exact⟨a,a2,rfl⟩) h;cases aG;obtain⟨bK,pC,h⟩:=cp h;cases h;have iH:=Rj pC ay;have c2:bK.length=n:=by have:=bl.2;obtain⟨_,_,_,_,_,ab⟩:=this;rw[<-ab,iH];simp
 subst iH;obtain⟨aF,he,kw⟩:∃ aF,X.E e=some aF/\aF.bL=.int .u8:=by
  unfold Eo at ag;split at ag;·rename_i h;exact⟨_,h,rfl⟩
  ·cases ag
 refine bw.aj5 aM aH aj ar rfl he kw fy rfl ex c2 bl ?_;exact k D _ M bO.o6 (by simp only[aT]) hm
def ald(aM:cU X.P X.E)(aj:∀ d,o.dst=some d->d<X.n){s d:Nat}(aH:o.op=.convert s d x)(h:Lm (dM X G pr) m s d (dg al x)=some (v,m'))(H:ji D F al o.op.operands.toList)(hm:c8 (dM X G pr) D m I M)
  (k:rU X G pr D m I M v m' o.dst F C K):bw X o F C I M K:=by
 unfold Lm at h;rw[aH]at H;split at h
 ·rename_i aa ab ak;obtain⟨ag,h⟩:=fU h;obtain⟨u,aG,a8⟩:=H.bE (x:=x) (by simp[Op.operands]) ak;obtain⟨a,a2,rfl⟩:=a8.sJ;exact Zz aM aj aH aa ab ag h ⟨a,_,a2,aG⟩ hm k
 ·rename_i aa ab ak;obtain⟨ag,h⟩:=fU h;obtain⟨u,aG,a8⟩:=H.bE (x:=x) (by simp[Op.operands]) ak;obtain⟨a,a2,_,rfl⟩:=a8.u6;exact Zz aM aj aH aa ab ag h ⟨a,_,a2,aG⟩ hm k
 ·rename_i aa ab ak;obtain⟨ag,h⟩:=fU h;obtain⟨u,aG,a8⟩:=H.bE (x:=x) (by simp[Op.operands]) ak;cases h;simp only[aT]at a8;subst a8;obtain⟨aF,he,kw⟩:∃ aF,X.E _=some aF/\aF.bL=.int .u8:=by
   unfold Eo at ag;split at ag;·rename_i h;exact⟨_,h,rfl⟩
   ·cases ag
  refine bw.aj6 aM aH aj aa rfl he kw ab rfl aG ?_;exact k D _ M bO.o6 (by simp only[aT]) hm
 ·cases h
def ZA(q:List UInt8):bN D (q.map λb=>ao.i .u8 (.ofNat b.toNat)) (ll ⟨q.toArray⟩):=by
 unfold ll;simp only
 induction q with
 |nil=>exact .nil| cons b q aN=>exact .cons (by simp only[aT];rfl) aN
def LL{l:List Operand}{a b:ao}(h:n6 al l=some [a,b]):∃ x y,l=[x,y]/\dg al x=some a/\dg al y=some b:=by
 match l,h with
 |[],h=>simp[n6]at h
 |[x],h=>
  simp only[n6]at h;split at h;·rename_i aG a7;cases a7;cases h
  ·cases h
 |[x,y],h=>
  simp only[n6]at h;split at h
  ·rename_i aG a7;split at a7
   ·rename_i cr ea;cases ea;cases a7;cases h;exact⟨x,y,rfl,aG,cr⟩
   ·cases a7
  ·cases h
 |x::y::z::l,h=>
  simp only[n6]at h;split at h
  ·rename_i aG a7;split at a7
   ·rename_i cr ea;split at ea
    ·cases ea;cases a7;cases h
    ·cases ea
   ·cases a7
  ·cases h
def c8.sub{M':List aD}(h:c8 (dM X G pr) D m I M)(ar:∀ x∈M,x∈M'):c8 (dM X G pr) D m I M':=
 ⟨λid e a hi a2=>(h.iQ id e a hi a2).mono (bO.le_refl D) (λx ad _=>ar x ad),h.inj,h.jQ,h.qK⟩
def ale(aM:cU X.P X.E)(aj:∀ d,o.dst=some d->d<X.n)(aH:o.op=.call { callee:=.builtin .copy,args:=args,argTypes:=fJ })(h:QK (dM X G pr) m fJ.toList (n6 al args.toList)=some (v,m'))
  (H:ji D F al args.toList) (hm:c8 (dM X G pr) D m I M) (k:rU X G pr D m I M v m' o.dst F C K):bw X o F C I M K:=by
 unfold QK at h;split at h
 ·rename_i t u id off n c q av ay;split at h
  ·rename_i sa sL sz e oA;obtain⟨aF,he,h⟩:=cp h;obtain⟨ag,h⟩:=fU h;rw[cB]at ag;obtain⟨m2,ab,-,-,ak⟩:=Ri (Y:=dM X G pr) h;cases ab;obtain⟨x,y,m1,wD,alf⟩:=LL ay;obtain⟨wB,ad,ba⟩:=H.bE (x:=x) (by rw[m1];simp) wD;obtain⟨rT,aE,fr⟩:=H.bE (x:=y) (by rw[m1];simp) alf;obtain⟨a,a2,rfl⟩:=ba.sJ;have alg:=fr.str;subst alg;obtain⟨g,Jx,a9,post,arr,T,cr,a',js,pq,⟨iR,cW,g9,lW,DK,au⟩,ke⟩:=ak hm (u:=.pointer (some ⟨a.b,a.o+off,none⟩)) (by simp only[aT];exact⟨a,a2,rfl⟩) (ZA q);cases cr;have mz:M.Perm (⟨a.b,.cells arr T (0,0)⟩::(a9++post)):=by rw[a'];exact mv
   have Ch:args=#[x,y]:=by apply gS;simpa using m1
   have Ci:fJ=#[t,u]:=by apply gS;simpa using av
   have dj:(⟨q.toArray⟩:ByteArray).size=q.length:=by simp[ByteArray.size]
   have mO:(ll ⟨q.toArray⟩).length=q.length:=by simp[ll]
   refine bw.Vm aM (by rw[aH,Ch,Ci]) aj oA rfl he (dQ ag.1) ad aE (by rw[dj];exact bJ ag.2) (by rw[dj,<-mO];exact js) mz ?_;rw[dj];have Rm:(a9++(⟨a.b,.cells (ck arr.toList (a.o+off) (ll ⟨q.toArray⟩)).toArray T (0,0)⟩:aD)::post).Perm (⟨a.b,.cells (ck arr.toList (a.o+off) (ll ⟨q.toArray⟩)).toArray T (0,0)⟩::(a9++post)):=mv;exact k D (.int .i64 q.length) _ bO.o6 (by simp only[aT];rfl) (ke.sub λx ad=>Rm.mem_iff.1 ad)
  ·cases h
 ·cases h
end
section
variable{P:Program}{w:World}
def ZB(t u ty e:Nat)(i:TypeInfo)(av:P.underlying t=some (.slice e))(hu:P.underlying u=some mi)(nV:∀ k,mi≠.int k)(hi:P.info? e=some i)
 {n c T:Nat} {arr:Array Value} (au:w.heap[g]?=some (.cells arr T (0,0))) {x:Value} {m:Nat} (aa:∀ v∈b8,v.oneCell'=true)
  (c2:∀ w',(Builtin.lenOf x).run P w'=.ok m w') (e4:(Builtin.firstCells i.size m x).run P w=.ok b8.toArray w) (uA:n+m<=c) (js:off+n*i.size+b8.length<=arr.size) :
  (Builtin.append_ #[t,u] ty #[.slice (some ⟨g,off,none⟩) n c,x]).run P w=.ok (.slice (some ⟨g,off,none⟩) (n+m) c) (w.setRow g (ck arr.toList (off+n*i.size) b8).toArray):=by
 have Gs:(match mi with | .int _=>true | _=>false)=false:=by cases mi<;>first | rfl | exact(nV _ rfl).elim
 have eu:=run_storeCells_at P g (off+n*i.size) T b8 0 arr w au (by simpa using js) aa;simp only[pk]at eu;have alh:(Addr.add ⟨g,off,none⟩ (n*i.size))=⟨g,off+n*i.size,none⟩:=eP _ rfl _;simp[Builtin.append_,run_underlying av,run_underlying hu,sizeOf,typeInfo,hi,c2,uA,e4,alh,eu,ck]
def ali(t u ty e:Nat)(i:TypeInfo)(z:Value)(av:P.underlying t=some (.slice e))(hu:P.underlying u=some mi)(nV:∀ k,mi≠.int k)(hi:P.info? e=some i)(bb:i.zero=some z)(qh:z.cells.size=i.size)
 {n c:Nat} (hold:(Builtin.firstCells i.size n (.slice cQ n c)).run P w.drew=.ok xs.toArray w.drew) (x5:xs.length=n*i.size) {x:Value} {m:Nat} (ay:b8.length=m*i.size)
  (c2:∀ w',(Builtin.lenOf x).run P w'=.ok m w') (e4:(Builtin.firstCells i.size m x).run P w.drew=.ok b8.toArray w.drew) (uA:c<n+m) (b1:n+m<=maxLen) (b0:(n+m)*i.bytes<=140737488355328) :
  ∃ cap aR,(Builtin.append_ #[t,u] ty #[.slice cQ n c,x]).run P w=.ok (.slice (some ⟨w.heap.size,0,none⟩) (n+m) cap) (w.drew.alloc (.cells (xs++b8++aR).toArray e (0,0)))/\n+m<=cap/\cap<=maxLen/\(xs++b8++aR).length=cap*i.size:=by
 have Gs:(match mi with | .int _=>true | _=>false)=false:=by cases mi<;>first | rfl | exact(nV _ rfl).elim
 have aB:¬ (n+m<=c):=by omega
 have hk:n+m<=9223372036854775807:=by simp only[maxLen]at b1;exact b1
 have Bm:¬ (9223372036854775807<((n:Int)+(m:Int))):=by omega
 have Bn:¬ (281474976710656<Builtin.nextslicecap (n+m) c*i.bytes):=by have:=growslice_fits (by omega:c<n+m) b0;omega
 have cA:=grownCap_ge w (n+m) c e;have kv:grownCap w (n+m) c e<=maxLen:=grownCap_le_maxLen w (n+m) c e b1;refine⟨grownCap w (n+m) c e,(Builtin.zeroCells z.cells (grownCap w (n+m) c e-(n+m))).toList,?_,cA,kv,?_⟩
 ·simp[Builtin.append_,run_underlying av,run_underlying hu,sizeOf,typeInfo,zeroValue,hi,bb,c2,aB,Bm,Bn,Question.forced,e4,hold,newRow,grownCap];congr 2;apply gS;simp
 ·rw[cm,cm,x5,ay,yW,size_zeroCells,qh,<-lL,<-lL];congr 1;omega
end
section
variable{X:cV}{G:GT}{pr:lU}{D:bO}{m m':bo}{F:Fr}{al:be ao}{C:dB}{I:aI}{M:List aD}{K:gd}{o:Oper}{v:ao}
def cM.LM{aS:Addr}{n:Nat}{vs:List Value}(h:cM I M aS n vs)(la:ey I M w)(j:Nat)(v:Value)(ai:vs[j]?=some v):w.cell? (aS.add j)=some v:=by
 obtain⟨dK,cs,T,al,e8,ah,ay⟩:=h;rw[eP _ dK,s7 (e8.heap la)];rw[<-ah,k6]at ai;split at ai
 ·rw[nj]at ai;simpa using ai
 ·cases ai
def alj{x:ao}{k:Nat}{K:List ao->Option R}{r:R}(h:Ep G m.t x aF.size K=some r)(ar:wu ut aF x=true)(ad:aT D x u)(hm:c8 (dM X G pr) D m I M)(ae:sI x=some k)(az:k≠0) :
  ∃ l vs,K l=some r/\bN D l vs/\(∀ w',(Builtin.lenOf u).run X.P w'=.ok k w')/\(∀ w,ey I M w->(Builtin.firstCells aF.size k u).run X.P w=.ok vs.toArray w)/\vs.length=k*aF.size /\
   ((∃ a b z e,ut=some ⟨a,b,z,.slice e⟩)\/∃ a b z,ut=some ⟨a,b,z,.string⟩):=by
 have Rn:(∃ a b z e,ut=some ⟨a,b,z,.slice e⟩)\/∃ a b z,ut=some ⟨a,b,z,.string⟩:=by
  unfold wu at ar;split at ar<;>first | exact .inl ⟨_,_,_,_,rfl⟩ | exact .inr ⟨_,_,_,rfl⟩ | cases ar
 cases x<;>simp only[Ep]at h<;>first | cases h | skip
 case sn=>simp[sI,wq]at ae;exact(az ae.symm).elim
 case so=>simp[sI,wq]at ae;exact(az ae.symm).elim
 case sl id off n c=>
  simp only[sI,wq,kk]at ae;subst ae;obtain⟨a,a2,rfl⟩:=ad.sJ;obtain⟨aS,l,vs,aG,bl,ay,h⟩:=wz (u:=.pointer (some ⟨a.b,a.o+off,none⟩)) hm (by simp only[aT];exact⟨a,a2,rfl⟩) h;cases aG;have o7:=bl;obtain⟨_,_,_,_,_,_,c2⟩:=o7;exact⟨l,vs,h,ay,λ_=>rfl,λw hw=>run_firstCells_some (P:=X.P) w aF.size n _ n c vs c2 (λj v ai=>bl.LM hw j v ai),c2,Rn⟩
 case sx id off e n=>
  simp only[sI,wq,kk]at ae;subst ae;obtain⟨a,a2,_,rfl⟩:=ad.u6;obtain⟨aS,l,vs,aG,bl,ay,h⟩:=wz (u:=.pointer (some ⟨a.b,a.o+off,none⟩)) hm (by simp only[aT];exact⟨a,a2,rfl⟩) h;cases aG;have o7:=bl;obtain⟨_,_,_,_,_,_,c2⟩:=o7;exact⟨l,vs,h,ay,λ_=>rfl,λw hw=>run_firstCells_some (P:=X.P) w aF.size n _ n _ vs c2 (λj v ai=>bl.LM hw j v ai),c2,Rn⟩
 case s q=>
  simp only[sI,kk]at ae;subst ae;have alk:aF.size=1:=by
   unfold wu at ar;split at ar<;>first | exact dQ ar | (rename_i e;cases e) | cases ar
  have:=ad.str;subst this;have aP:(⟨q.toArray⟩:ByteArray).size=q.length:=by simp[ByteArray.size]
  refine⟨_,ll ⟨q.toArray⟩,h,ZA q,λw=>?_,λw hw=>?_,by simp[ll,alk],Rn⟩;·show Result.ok _ _=_;rw[aP]
  ·have:=UL w aF.size (P:=X.P) ⟨q.toArray⟩;rw[aP]at this;exact this
def Ro(aM:cU X.P X.E)(aj:∀ d,o.dst=some d->d<X.n){s:Operand}{u:Nat}(aH:o.op=.call { callee:=.builtin .append,args:=#[s,x],argTypes:=#[t,u] })
 (av:X.E t=some ⟨cL,b1,z0,.slice e⟩) (hu:X.E u=some lM) (fE:∀ k,lM.bL≠.int k) (he:X.E e=some aF)
 {n c k:Nat} {Rp:Value} (ar:bE F s=.val (.slice cQ n c)) (ad:bE F x=.val Rp) (x5:xs.length=n*aF.size) (nw:b8.length=k*aF.size) (aa:gm b8=true)
  (c2:∀ w',(Builtin.lenOf Rp).run X.P w'=.ok k w') (e4:∀ w,ey I M w->(Builtin.firstCells aF.size k Rp).run X.P w=.ok b8.toArray w)
  (hold:∀ w,ey I M w->(Builtin.firstCells aF.size n (.slice cQ n c)).run X.P w=.ok xs.toArray w) (b1:n+k<=maxLen) (b0:(n+k)*aF.bytes<=140737488355328)
  (alm:n+k<=c->∃ g off T arr a9 post,cQ=some ⟨g,off,none⟩/\M=a9++⟨g,.cells arr T (0,0)⟩::post/\off+n*aF.size+b8.length<=arr.size /\ K (put o.dst (.val (.slice cQ (n+k) c)) F) C I (a9++⟨g,.cells (ck arr.toList (off+n*aF.size) b8).toArray T (0,0)⟩::post))
  (aln:c<n+k->∀ b cap aR,I b=none->(∀ y∈M,y.num≠b)->n+k<=cap->cap<=maxLen->(xs++b8++aR).length=cap*aF.size ->
   K (put o.dst (.val (.slice (some ⟨b,0,none⟩) (n+k) cap)) F) C I (⟨b,.cells (xs++b8++aR).toArray e (0,0)⟩::M)):bw X o F C I M K:=by
 refine⟨λa w Q ⟨β,aW⟩=>?_⟩;obtain⟨inf,z,hi,fh,iJ,il,ko⟩:=(aM _ _ he).inf;obtain⟨d,fF,fi⟩:=(aM _ _ hu).fl;obtain⟨fK,jJ,j4⟩:=(aM _ _ av).fl;have qi:fK=.slice e:=by cases fK<;>simp_all[fk]
 subst qi;have qh:z.cells.size=inf.size:=by rw[fh,<-(aM _ _ he).len,<-ko];simp
 have es:=dc aW.al ar;have ex:=dc aW.al ad;have nV:∀ k,d≠.int k:=λk cW=>fE k (by rw[<-fi,cW];rfl);rw[<-fh]at x5 nw hold e4;by_cases uA:n+k<=c
 ·obtain⟨g,off,T,arr,a9,post,rfl,a',js,ae⟩:=alm uA;rw[<-fh]at js ae;have au:w.heap[g]?=some (.cells arr T (0,0)):=aW.holds.m ⟨g,.cells arr T (0,0)⟩ (by rw[a'];simp);have e9:=ZB (P:=X.P) (w:=w) t u o.type e inf jJ fF nV hi au (yJ aa) c2 (e4 w aW.holds) uA js;refine iV (by rw[aH];simp) ?_ ⟨_,_,_,_,⟨β,cH.put (x:=.val (.slice (some ⟨g,off,none⟩) (n+k) c)) (aW.xe a') aj rfl⟩,ae⟩;unfold execOp;simp only[aH,resolve,invoke,builtin,cj,c0,bV,sc,cb,hr,es,ex,e9]
 ·have la:ey I M w.drew:=aW.holds.heap rfl;obtain⟨cap,aR,e9,ab,ak,aJ⟩:=ali (P:=X.P) (w:=w) t u o.type e inf z jJ fF nV hi il qh (hold w.drew la) x5 nw c2 (e4 w.drew la) (by omega) b1 (by rw[iJ];exact b0);have lp:cH X β a w.drew F C I M:=aW.world rfl;rw[fh]at aJ;refine iV (by rw[aH];simp) ?_ ⟨_,_,_,_,⟨β,cH.put (x:=.val (.slice (some ⟨w.heap.size,0,none⟩) (n+k) cap)) (lp.nS (.cells (xs++b8++aR).toArray e (0,0))) aj rfl⟩,aln (by omega) w.heap.size cap aR aW.holds.r8 aW.holds.q1 ab ak aJ⟩;unfold execOp;simp only[aH,resolve,invoke,builtin,cj,c0,bV,sc,cb,hr,es,ex,e9]
def ZC{u:Nat}{x:ao}(h:wu (X.E u) aF x=true):∃ lM,X.E u=some lM/\∀ k,lM.bL≠.int k:=by
 unfold wu at h;split at h<;>first | (cases h;done) | (rename_i e;exact⟨_,e,by simp⟩) | (rename_i e _;exact⟨_,e,by simp⟩) | (rename_i e _ _;exact⟨_,e,by simp⟩)
def alo{s:ao}(h:Es s=true)(ar:aT D s u):∃ a n c,u=.slice a n c/\n<=c:=by
 cases s<;>simp only[Es,k7]at h
 case sn=>exact⟨_,_,_,ar.Cc,cc _⟩
 case so=>obtain⟨a,c,rfl⟩:=ar.Lw;exact⟨_,_,_,rfl,dz _⟩
 case sl=>obtain⟨a,_,rfl⟩:=ar.sJ;exact⟨_,_,_,rfl,bJ h⟩
 case sx=>obtain⟨a,_,bp,rfl⟩:=ar.u6;exact⟨_,_,_,rfl,by omega⟩
def alp{x:ao}(ar:wu ut aF x=true)(ad:aT D x u)(ae:sI x=some 0):(∃ b c,u=.slice b 0 c)\/u=.string .empty:=by
 cases x<;>simp[sI,wq]at ae
 case sn=>exact .inl ⟨_,_,ad.Cc⟩
 case so=>obtain⟨a,c,rfl⟩:=ad.Lw;exact .inl ⟨_,_,rfl⟩
 case sl=>subst ae;obtain⟨a,_,rfl⟩:=ad.sJ;exact .inl ⟨_,_,rfl⟩
 case sx=>subst ae;obtain⟨a,_,_,rfl⟩:=ad.u6;exact .inl ⟨_,_,rfl⟩
 case gs=>subst ae;exact .inl ⟨_,_,ad.Q1⟩
 case s=>subst ae;exact .inr ad.str
noncomputable abbrev Rq(X:cV)(G:GT)(m:bo)(s x:ao)(aF:dD)(aL e:Nat):List ao->Option (ao×bo):=λl=>bq (some aL) none λk=>bW (Nat.beq k 0) (bW (Es s) (some (s,m)) none) (bW (l.all ao.one) (HK G m s l k aF.size aF.bytes e) none)
def alq(aM:cU X.P X.E)(aj:∀ d,o.dst=some d->d<X.n){u:Nat}(aH:o.op=.call { callee:=.builtin .append,args:=#[os,pM],argTypes:=#[t,u] })
 (av:X.E t=some ⟨cL,b1,z0,.slice e⟩) {s x:ao} (vc:wu (X.E u) aF x=true) (he:X.E e=some aF) (ae:sI x=some 0) {us:Value}
  (es:bE F os=.val us) (gs:aT D s us) (ex:bE F pM=.val ma) (z8:aT D x ma) (h:Ep G m.t x aF.size (Rq X G m s x aF 0 e)=some (v,m'))
  (hm:c8 (dM X G pr) D m I M) (k:rU X G pr D m I M v m' o.dst F C K):bw X o F C I M K:=by
 have ab:∃ l,Rq X G m s x aF 0 e l=some (v,m'):=by
  cases x<;>simp only[Ep]at h<;>first | cases h | exact⟨_,h⟩ | skip
  case sl=>obtain⟨a,a2,rfl⟩:=z8.sJ;obtain⟨_,l,_,_,_,_,h⟩:=wz (u:=.pointer (some ⟨a.b,a.o+_,none⟩)) hm (by simp only[aT];exact⟨a,a2,rfl⟩) h;exact⟨l,h⟩
  case sx=>obtain⟨a,a2,_,rfl⟩:=z8.u6;obtain⟨_,l,_,_,_,_,h⟩:=wz (u:=.pointer (some ⟨a.b,a.o+_,none⟩)) hm (by simp only[aT];exact⟨a,a2,rfl⟩) h;exact⟨l,h⟩
 obtain⟨l,ab⟩:=ab;have ak:bW (Es s) (some (s,m)) none=some (v,m'):=ab;obtain⟨ap,ak⟩:=fU ak;cases ak;obtain⟨a,n,c,rfl,mQ⟩:=alo ap gs;obtain⟨lM,hu,fE⟩:=ZC vc;exact bw.OO aM aH aj av rfl hu fE he es mQ ex (alp vc z8 ae) (k D _ M bO.o6 gs hm)
def alr(aM:cU X.P X.E)(aj:∀ d,o.dst=some d->d<X.n){u:Nat}(aH:o.op=.call { callee:=.builtin .append,args:=#[os,pM],argTypes:=#[t,u] })
 (av:X.E t=some ⟨cL,b1,z0,.slice e⟩) (hu:X.E u=some lM) (fE:∀ k,lM.bL≠.int k) (he:X.E e=some aF) {us:Value} {id off n c aL:Nat}
  (es:bE F os=.val us) (gs:aT D (.sl id off n c) us) (ex:bE F pM=.val ma) {l:List ao} {vs:List Value} (h:QG G m id off n c l aL aF.size e=some (v,m')) (hk:n+aL<=maxLen) (gU:(n+aL)*aF.bytes<=140737488355328)
  (ay:bN D l vs) (sE:vs.length=aL*aF.size) (aa:gm vs=true) (c2:∀ w',(Builtin.lenOf ma).run X.P w'=.ok aL w') (e4:∀ w,ey I M w->(Builtin.firstCells aF.size aL ma).run X.P w=.ok vs.toArray w)
  (hm:c8 (dM X G pr) D m I M) (k:rU X G pr D m I M v m' o.dst F C K):bw X o F C I M K:=by
 have H5:∀ {q:List Value} {c:Nat},q.length=c*aF.size->∀ i,(dM X G pr).E e=some i->q.length=c*i.size:=λaP i hi=>by have:X.E e=some i:=hi;rw[he]at this;cases this;exact aP
 obtain⟨a,a2,rfl⟩:=gs.sJ;unfold QG at h;by_cases af:n+aL<=c
 ·have ag:Nat.ble (Nat.add n aL) c=true:=BX af;rw[ag]at h;have bd:x1 m (.p id (Nat.add off (Nat.mul n aF.size))) l (λm=>some (ao.sl id off (Nat.add n aL) c,m))=some (v,m'):=h;obtain⟨m2,ab,-,-,ak⟩:=Ri (Y:=dM X G pr) bd;cases ab;obtain⟨g,Jx,a9,post,arr,T,aG,a',js,pq,⟨iR,cW,g9,lW,DK,au⟩,ke⟩:=ak hm (u:=.pointer (some ⟨a.b,a.o+(off+n*aF.size),none⟩)) (by simp only[aT];exact⟨a,a2,rfl⟩) ay;cases aG;refine⟨λac w Q ⟨β,aW⟩=>?_⟩;obtain⟨inf,z,hi,fh,iJ,il,ko⟩:=(aM _ _ he).inf;obtain⟨d,fF,fi⟩:=(aM _ _ hu).fl;obtain⟨fK,jJ,j4⟩:=(aM _ _ av).fl;have qi:fK=.slice e:=by cases fK<;>simp_all[fk]
  subst qi;have au:w.heap[a.b]?=some (.cells arr T (0,0)):=aW.holds.m ⟨a.b,.cells arr T (0,0)⟩ (by rw[a'];simp);have vb:=dc aW.al es;have Cj:=dc aW.al ex;rw[<-fh]at e4;have e9:=ZB (P:=X.P) (w:=w) t u o.type e inf jJ fF (λk cW=>fE k (by rw[<-fi,cW];rfl)) hi au (yJ aa) c2 (e4 w aW.holds) af (off:=a.o+off) (by rw[fh];omega);rw[fh,s0]at e9;have lp:=aW.xe (cs':=(ck arr.toList (a.o+(off+n*aF.size)) vs).toArray) a';refine iV (by rw[aH];simp) ?_ ⟨_,_,_,_,⟨β,cH.put (x:=.val (.slice (some ⟨a.b,a.o+off,none⟩) (n+aL) c)) lp aj rfl⟩,?_⟩;·unfold execOp;simp only[aH,resolve,invoke,builtin,cj,c0,bV,sc,cb,hr,vb,Cj,e9]
  ·exact k D _ _ bO.o6 (by simp only[aT];exact⟨a,a2,rfl⟩) ke
 ·have ag:Nat.ble (Nat.add n aL) c=false:=by
   cases ag:Nat.ble (Nat.add n aL) c with
   |false=>rfl| true=>exact absurd (bJ ag) af
  rw[ag]at h;have bd:tK G m.t (.p id off) (Nat.mul n aF.size) (λdE=>u4 m (dE++l) e λid m=>some (ao.sx id 0 0 (Nat.add n aL),m))=some (v,m'):=h;obtain⟨aS,dE,xs,aG,bl,eT,ab⟩:=wz (u:=.pointer (some ⟨a.b,a.o+off,none⟩)) hm (by simp only[aT];exact⟨a,a2,rfl⟩) bd;cases aG;obtain⟨m2,b5,aB,dZ⟩:=Rf (Y:=dM X G pr) ab;cases b5;have o7:=bl;obtain⟨_,_,_,_,_,_,hl⟩:=o7;refine Ro aM aj aH av hu fE he es ex hl sE aa c2 e4 (λw hw=>run_firstCells_some (P:=X.P) w aF.size n _ n c xs hl (λj v ai=>bl.LM hw j v ai)) hk gU (λeY=>(af eY).elim) λ_ b cap aR bt aA x6 x7 rV=>?_;refine k _ _ _ bO.EG ?_ (dZ aR hm aA (eT.append ay) (H5 rV) x7);simp only[aT];exact⟨_,bO.pS _ _ _,by simpa using x6,by simp⟩
def als(aM:cU X.P X.E)(aj:∀ d,o.dst=some d->d<X.n){u:Nat}(aH:o.op=.call { callee:=.builtin .append,args:=#[os,pM],argTypes:=#[t,u] })
 (av:X.E t=some ⟨cL,b1,z0,.slice e⟩) (hu:X.E u=some lM) (fE:∀ k,lM.bL≠.int k) (he:X.E e=some aF) {us:Value} {id n fH aL:Nat} {cs:be ao}
  (es:bE F os=.val us) (gs:aT D (.sx id 0 0 n) us) (ex:bE F pM=.val ma) (au:m.t.get id=some (.cells cs e fH)) {l:List ao} {vs:List Value} (h:QH m id n cs fH l aL aF.size e=some (v,m')) (hk:n+aL<=maxLen) (gU:(n+aL)*aF.bytes<=140737488355328)
  (ay:bN D l vs) (sE:vs.length=aL*aF.size) (aa:gm vs=true) (c2:∀ w',(Builtin.lenOf ma).run X.P w'=.ok aL w') (e4:∀ w,ey I M w->(Builtin.firstCells aF.size aL ma).run X.P w=.ok vs.toArray w)
  (hm:c8 (dM X G pr) D m I M) (k:rU X G pr D m I M v m' o.dst F C K):bw X o F C I M K:=by
 obtain⟨a,a2,bp,rfl⟩:=gs.u6;have p7:=hm.iQ _ _ _ au a2;obtain⟨arr,x8,a',dj,ap,ae,ij⟩:=p7;unfold QH at h;obtain⟨z4,h⟩:=fU h;have ZD:n*aF.size<=fH:=bJ z4;obtain⟨t1,ab,ak⟩:=be.o2 (none:Option fG) m.t id;rw[ab]at h;obtain⟨cs',aJ,bB⟩:=be.x3 l cs (Nat.mul n aF.size);have bd:be.xX l cs (Nat.mul n aF.size) (λcs=>B7 (⟨t1,m.n⟩:bo) (.cells cs e (Nat.mul (Nat.add n aL) aF.size)) λid m=>some (ao.sx id 0 0 (Nat.add n aL),m))=some (v,m'):=h;rw[aJ]at bd;obtain⟨t2,b5,dZ⟩:=H2 bd;cases dZ;have kx:∀ i e5,t1.get i=some e5->i≠id/\m.t.get i=some e5:=λi e5 hi=>by
  rcases ak i e5 hi with⟨_,fj⟩ | fj;·cases fj
  ·exact fj
 have ZE:c8 (dM X G pr) D ⟨t1,m.n⟩ I M:=⟨λi e5 b hi=>hm.iQ i e5 b (kx i e5 hi).2,λi gQ e5 z9 b iI hi cX=>hm.inj i gQ e5 z9 b iI (kx i e5 hi).2 (kx gQ z9 cX).2,hm.jQ,hm.qK⟩;have ZF:arr.size=a.c*aF.size:=by have:=ae aF he;rw[x8,db]at this;exact this
 have Lv:=ay.len;have x5:((arr.toList.take (n*aF.size)).length=n*aF.size):=by rw[hU,yW];omega
 have Hj:∀ j,j<n*aF.size->∀ v,cs.get j=some v->∃ x,(arr.toList.take (n*aF.size))[j]?=some x/\aT D v x:=λj ai v ah=>by obtain⟨x,a8,ba⟩:=ap j v (by omega) ah;rw[x8,db]at a8;exact⟨x,by rw[k6,bQ ai];simpa using a8,ba⟩
 have ZG:∀ (bC:bO) (M':List aD) (b eV:Nat) (bi:List Value),D.le bC->(⟨b,.cells (arr.toList.take (n*aF.size)++vs++bi).toArray e (0,0)⟩:aD)∈M'->(arr.toList.take (n*aF.size)++vs++bi).length=eV*aF.size->eV<=maxLen ->
   lC bC X.E M' ⟨b,0,eV⟩ (.cells cs' e (Nat.mul (Nat.add n aL) aF.size)):=by
  intro bC M' b eV bi dr x9 alt alu;have hmul:(n+aL)*aF.size=n*aF.size+aL*aF.size:=lL _ _ _;refine .cells _ rfl x9 ?_ (λi v hi va=>?_) (λi hi=>?_) alu;·show 0+(n+aL)*aF.size<=_;rw[ow,cm,cm,x5,sE];omega
  ·have cX:i<n*aF.size+aL*aF.size:=by have:i<(n+aL)*aF.size:=hi;omega
   simp only[db,A'];rcases bB i v va with⟨a8,ba⟩ | ⟨a8,ba⟩;·have LN:n*aF.size<=i:=a8;obtain⟨x,bP,fr⟩:=ay.get (i:=i-n*aF.size) ba;refine⟨x,?_,fr.mono dr⟩;rw[dT,mT (by omega),x5,q' (by omega)];exact bP
   ·have LN:i<n*aF.size:=by
     rcases a8 with a8 | a8;·exact a8
     ·have:n*aF.size+l.length<=i:=a8;omega
    obtain⟨x,bP,fr⟩:=Hj i LN v ba;refine⟨x,?_,fr.mono dr⟩;rw[dT,q' (by omega)];exact bP
  ·rw[he]at hi;cases hi;simpa using alt
 refine Ro aM aj aH av hu fE he es ex x5 sE aa c2 e4 (λw hw=>?_) hk gU (λaf=>?_) λ_ b cap aR bt aA x6 x7 rV=>?_
 ·refine run_firstCells_some (P:=X.P) w aF.size n _ n _ _ x5 λj v ai=>?_;rw[eP _ rfl,s7 (hw.m _ a')];rw[k6]at ai;split at ai
  ·rw[x8];simpa using ai
  ·cases ai
 ·
  obtain⟨a9,post,dK⟩:=u9 a';rw[Kr]at af;have js:a.o+0+n*aF.size+vs.length<=arr.size:=by have dN:=vA aF.size af;rw[lL]at dN;rw[x8,ZF,sE];omega
  refine⟨a.b,a.o+0,e,arr,a9,post,rfl,dK,js,?_⟩;have ZH:ck arr.toList (a.o+0+n*aF.size) vs=arr.toList.take (n*aF.size)++vs++arr.toList.drop (n*aF.size+vs.length):=by rw[x8];simp only[ck,db]
  rw[ZH];have nv:∀ q∈M,q.num≠a.b->q∈a9++(⟨a.b,.cells (arr.toList.take (n*aF.size)++vs++arr.toList.drop (n*aF.size+vs.length)).toArray e (0,0)⟩:aD)::post:=λq aP aB=>by
   rw[dK]at aP;rcases cE.1 aP with aP | aP;·exact cE.2 (.inl aP)
   ·rcases ee.1 aP with rfl | aP
    ·exact(aB rfl).elim
    ·exact cE.2 (.inr (nJ _ aP))
  have H6:∀ i e5 b,t1.get i=some e5->D i=some b->b.b≠a.b:=λi e5 b hi ag Ck=>(kx i e5 hi).1 (hm.inj _ _ _ _ _ _ (kx i e5 hi).2 au ag a2 Ck);refine k _ _ _ bO.EG ?_ (ZE.step (m:=⟨t1,m.n⟩) (j:=m.n) (λi e5 hi=>(b5 i e5 hi).imp (λq=>⟨q.1,o4 q.2⟩) λq=>q) (D.pS _ ⟨a.b,0,a.c⟩) (bO.z2 _ hm.fresh) (λi hi=>by unfold bO.set;rw[bU hi]) (λi b ag=>?_) (λ_ _ h=>h) (λi e5 b bn hi ag q aP aB=>nv q aP (by rw[aB];exact H6 i e5 b hi ag)) (ZG _ _ _ _ (arr.toList.drop (n*aF.size+vs.length)) (bO.z2 _ hm.fresh) (by simp) ?_ ij) λi e5 b bn hi ag=>H6 i e5 b hi ag);·simp only[aT];exact⟨_,bO.pS _ _ _,by simpa using af,by rw[x8];rfl⟩
  ·unfold bO.set at ag;split at ag
   ·show i<m.n+1;omega
   ·have:=hm.jQ _ _ ag;show i<m.n+1;omega
  ·rw[<-ZH,Rh (by simpa using js)];simpa using ZF
 ·
  refine k _ _ _ bO.EG ?_ (ZE.new (m:=⟨t1,m.n⟩) (a:=⟨b,0,cap⟩) b5 aA (ZG _ _ _ _ _ (bO.z2 _ hm.fresh) (by simp) rV x7));simp only[aT];exact⟨_,bO.pS _ _ _,by simpa using x6,by simp⟩
def alv(aM:cU X.P X.E)(aj:∀ d,o.dst=some d->d<X.n){u:Nat}(aH:o.op=.call { callee:=.builtin .append,args:=#[os,pM],argTypes:=#[t,u] })
 (av:X.E t=some ⟨cL,b1,z0,.slice e⟩) {s x:ao} (vc:wu (X.E u) aF x=true) (he:X.E e=some aF) {aL:Nat} (ae:sI x=some aL) (az:aL≠0) {us:Value}
  (es:bE F os=.val us) (gs:aT D s us) (ex:bE F pM=.val ma) (z8:aT D x ma) (h:Ep G m.t x aF.size (Rq X G m s x aF aL e)=some (v,m'))
  (hm:c8 (dM X G pr) D m I M) (k:rU X G pr D m I M v m' o.dst F C K):bw X o F C I M K:=by
 obtain⟨l,vs,ab,ay,c2,e4,sE,_⟩:=alj (ut:=X.E u) h vc z8 hm ae az;have ak:bW (Nat.beq aL 0) (bW (Es s) (some (s,m)) none) (bW (l.all ao.one) (HK G m s l aL aF.size aF.bytes e) none)=some (v,m'):=ab;rw[hp az]at ak;have aJ:bW (l.all ao.one) (HK G m s l aL aF.size aF.bytes e) none=some (v,m'):=ak;obtain⟨pq,aJ⟩:=fU aJ;have aa:=ay.one pq;obtain⟨lM,hu,fE⟩:=ZC vc;have H5:∀ {q:List Value} {c:Nat},q.length=c*aF.size->∀ i,(dM X G pr).E e=some i->q.length=c*i.size:=λaP i hi=>by have:X.E e=some i:=hi;rw[he]at this;cases this;exact aP
 cases s<;>simp only[HK]at aJ<;>first | cases aJ | skip
 case sn=>
  obtain⟨ag,bB⟩:=fU aJ;rw[cB]at ag;obtain⟨m2,b5,aB,dZ⟩:=Rf (Y:=dM X G pr) bB;cases b5;have iN:=gs.Cc;subst iN;have hk:0+aL<=maxLen:=by rw[db];exact bJ ag.2
  have gU:(0+aL)*aF.bytes<=140737488355328:=by rw[db];exact bJ ag.1
  refine Ro aM aj aH av hu fE he (n:=0) (c:=0) (xs:=[]) es ex (by simp) sE aa c2 e4 (λw _=>by simp[run_firstCells_none]) hk gU (λaf=>by omega) λ_ b cap aR bt aA x6 x7 rV=>?_;refine k _ _ _ bO.EG ?_ (dZ aR hm aA ay (H5 rV) x7);simp only[aT];exact⟨_,bO.pS _ _ _,by simpa using x6,by simp⟩
 case sl=>
  obtain⟨ag,bB⟩:=fU aJ;rw[cB]at ag;exact alr aM aj aH av hu fE he es gs ex bB (bJ ag.2) (bJ ag.1) ay sE aa c2 e4 hm k
 case sx=>
  split at aJ;·rename_i au;obtain⟨ag,bB⟩:=fU aJ;simp only[cB]at ag;obtain⟨⟨gz,gJ⟩,qx,KM,KN⟩:=ag;have d1:=dQ gz;have d2:=dQ gJ;have d3:=dQ qx;subst d1;subst d2;subst d3;exact als aM aj aH av hu fE he es gs ex au bB (bJ KN) (bJ KM) ay sE aa c2 e4 hm k
  ·cases aJ
def alw(aM:cU X.P X.E)(aj:∀ d,o.dst=some d->d<X.n)(aH:o.op=.call { callee:=.builtin .append,args:=args,argTypes:=fJ })(h:QJ (dM X G pr) m fJ.toList (n6 al args.toList)=some (v,m'))
  (H:ji D F al args.toList) (hm:c8 (dM X G pr) D m I M) (k:rU X G pr D m I M v m' o.dst F C K):bw X o F C I M K:=by
 unfold QJ at h;split at h
 ·rename_i t u s x av ay;split at h
  ·rename_i sa sL sz e oA;obtain⟨aF,he,h⟩:=cp h;obtain⟨vc,h⟩:=fU h;obtain⟨os,pM,m1,fo,wD⟩:=LL ay;obtain⟨us,es,gs⟩:=H.bE (x:=os) (by rw[m1];simp) fo;obtain⟨ma,ex,z8⟩:=H.bE (x:=pM) (by rw[m1];simp) wD;have Ch:args=#[os,pM]:=by apply gS;simpa using m1
   have Ci:fJ=#[t,u]:=by apply gS;simpa using av
   have rl:o.op=.call { callee:=.builtin .append,args:=#[os,pM],argTypes:=#[t,u] }:=by rw[aH,Ch,Ci]
   cases ae:sI x with
   |none=>
    exfalso;unfold wu at vc;split at vc<;>first | (cases vc;done) | (simp[sI,wq]at ae;done)
   |some aL=>
    rw[ae]at h;by_cases az:aL=0;·subst az;exact alq aM aj rl oA vc he ae es gs ex z8 h hm k
    ·exact alv aM aj rl oA vc he ae az es gs ex z8 h hm k
  ·cases h
 ·cases h
end
section
variable{X:cV}{β:Nat->Nat}{F:Fr}{C:dB}{I:aI}{M:List aD}{o:Oper}{K:gd}
def Rr(aM:cU P E)(av:E t=some c7)(dR:c7.bL=.slice e):P.underlying t=some (.slice e):=by
 obtain⟨fK,jJ,j4⟩:=(aM _ _ av).fl;have qi:fK=.slice e:=by rw[dR]at j4;cases fK<;>simp_all[fk]
 rw[jJ,qi]
def gn.Rs(aM:cU P E)(av:E t=some c7)(dR:c7.bL=.slice e){n c c':Nat}{V:Value->Prop}{other:Prop}
  (h:V (.bool a.isNone)):gn P .eql t x y (.val (.slice a n c)) (.val (.slice none fT c')) V other:=by
 have aa:=Rr aM av dR;refine .mk _ _ _ rfl rfl (λw=>?_) h;have aG:(eqGuard .eql t x y (.slice a n c) (.slice none fT c')).run P w=.ok () w:=by unfold eqGuard;rfl
 simp only[cj,aG,bV];exact Lib.run_eql_slice_nil w t e a n c fT c' aa
def bw.slice3(aM:cU X.P X.E)(aH:o.op=.slice t x (some lo) (some hi) (some mx))(aj:∀ d,o.dst=some d->d<X.n)
 (av:X.E t=some c7) (dR:c7.bL=.slice e) (he:X.E e=some aF) {aS:Option Addr} {n c:Nat} (l h m:Nat) {ez:IntKind}
  (ad:bE F x=.val (.slice aS n c)) (eT:bE F lo=.val (.int ez (l:Nat))) (gw:bE F hi=.val (.int cJ (h:Nat))) (ij:bE F mx=.val (.int hc (m:Nat)))
  (aa:l<=h) (ab:h<=m) (ak:m<=c) (k:K (put o.dst (.val (.slice (if m=l then aS else aS.map (·.add (l*aF.size))) (h-l) (m-l))) F) C I M):bw X o F C I M K:=by
 refine⟨λa w Q ⟨β,aW⟩=>?_⟩;have hu:=Rr aM av dR;refine iV (by rw[aH];simp) (v:=.slice (if m=l then aS else aS.map (·.add (l*aF.size))) (h-l) (m-l)) (w':=w) ?_ ⟨_,_,_,_,⟨β,cH.put (x:=.val (.slice (if m=l then aS else aS.map (·.add (l*aF.size))) (h-l) (m-l))) aW aj rfl⟩,k⟩;have ex:=dc aW.al ad;have aG:=dc aW.al eT;have a7:=dc aW.al gw;have cr:=dc aW.al ij;simp only[execOp,aH,Instr.sliceAt,Instr.slice,Instr.sliceBounds,Instr.sliceBound,ex,cj,run_underlying hu,bV,(aM _ _ he).run_sizeOf,c0,k8,ue,aG,a7,cr,oo];rw[bQ ⟨by omega,by omega⟩];simp only[c0,bV,gl];rw[bQ ⟨by omega,by omega⟩];simp only[c0,bV,gl];rw[bQ ⟨by omega,by omega⟩];simp
end
section
variable{X:cV}{G:GT}{pr:lU}{D:bO}{m m':bo}{F:Fr}{al:be ao}{C:dB}{I:aI}{M:List aD}{K:gd}{o:Oper}{v:ao}
def alx(aM:cU X.P X.E)(aj:∀ d,o.dst=some d->d<X.n)(aH:o.op=.call { callee:=.builtin .unsafeString,args:=args,argTypes:=fJ })(h:QL (dM X G pr) m fJ.toList (n6 al args.toList)=some (v,m'))
  (H:ji D F al args.toList) (hm:c8 (dM X G pr) D m I M) (k:rU X G pr D m I M v m' o.dst F C K):bw X o F C I M K:=by
 unfold QL at h;split at h
 ·rename_i uv it av ay;cases h;obtain⟨op,on,m1,aa,ab⟩:=LL ay;obtain⟨wB,aG,a8⟩:=H.bE (x:=op) (by rw[m1];simp) aa;obtain⟨rT,a7,ba⟩:=H.bE (x:=on) (by rw[m1];simp) ab;have Ch:args=#[op,on]:=by apply gS;simpa using m1
  have Ci:fJ=#[uv,it]:=by apply gS;simpa using av
  have LN:wB=.pointer none:=by simpa only[aT]using a8
  subst LN;rw[ba.int]at a7;refine bw.Vl (by rw[aH,Ch,Ci]) aj aG a7 (k D _ M bO.o6 ?_ hm);simp only[aT];rfl
 ·rename_i uv it id n av ay;split at h
  ·rename_i sa sL sz e cs T fH aly au;obtain⟨aF,he,dZ⟩:=cp h;obtain⟨ag,fj⟩:=fU dZ;simp only[cB]at ag;obtain⟨op,on,m1,aa,ab⟩:=LL ay;obtain⟨wB,aG,a8⟩:=H.bE (x:=op) (by rw[m1];simp) aa;obtain⟨rT,a7,ba⟩:=H.bE (x:=on) (by rw[m1];simp) ab;have Ch:args=#[op,on]:=by apply gS;simpa using m1
   have Ci:fJ=#[uv,it]:=by apply gS;simpa using av
   rw[ba.int]at a7;obtain⟨a,a2,rfl⟩:=a8.ptr;have p7:=hm.iQ _ _ _ au a2;obtain⟨arr,x8,a',dj,ap,ae,ij⟩:=p7;have H5:=dQ ag.2.1;subst H5;unfold tK at fj;simp only[au]at fj;cases Rt:Nat.ble (Nat.add 0 n) fH with
   |false=>rw[Rt]at fj;cases fj| true=>
   rw[Rt]at fj;simp only[ca]at fj;have nw:0+n<=fH:=bJ Rt;obtain⟨l,gz,gJ,dN⟩:=be.Ey cs n 0 _ _ fj;obtain⟨bK,pC,ql⟩:=cp dN;obtain⟨Ov,EI⟩:=fU ql;obtain⟨t1,aJ,bB⟩:=be.o2 (none:Option fG) m.t id;rw[aJ]at EI;cases EI;have uP:(arr.toList.take n).length=n:=by rw[hU,yW];omega
   have EJ:bN D l (arr.toList.take n):=bN.Q0 (by rw[uP,gz]) λi v hi=>by
    have fv:i<n:=by rw[<-gz];exact(h5.1 hi).1
    obtain⟨x,bP,fr⟩:=ap i v (by omega) (by have:=gJ i fv;rw[db]at this;rw[this,hi]);rw[x8,db]at bP;exact⟨x,by rw[k6,bQ fv];simpa using bP,fr⟩
   have iH:=Rj pC EJ;have mO:bK.length=n:=by have:=congrArg List.length iH;rw[uP]at this;simpa using this.symm
   obtain⟨a9,post,dK⟩:=u9 a';have mz:M.Perm (⟨a.b,.cells arr T (0,0)⟩::(a9++post)):=by rw[dK];exact mv
   have nq:arr.toList.take bK.length=bK.map λb=>Value.int .u8 b.toNat:=by rw[mO];exact iH
   have az:bK≠[]:=λcW=>by subst cW;have:0<n:=bJ ag.2.2;simp at mO;omega
   have ej:bE F op=.val (.pointer (some ⟨a.b,0,none⟩)):=by rw[aG,x8]
   have q4:bE F on=.val (.int .i64 bK.length):=by rw[a7,mO];rfl
   refine bw.Ou aM (by rw[aH,Ch,Ci]) aj aly rfl he (dQ ag.1) ej q4 az (by rw[mO];exact bJ Ov) mz nq ?_;have kx:∀ i e5,t1.get i=some e5->i≠id/\m.t.get i=some e5:=λi e5 hi=>by
    rcases bB i e5 hi with⟨_,fj⟩ | fj;·cases fj
    ·exact fj
   refine k D _ _ bO.o6 (by simp only[aT]) ⟨λi e5 b hi hk=>?_,λi gQ e5 z9 b iI hi cX=>hm.inj i gQ e5 z9 b iI (kx i e5 hi).2 (kx gQ z9 cX).2,hm.jQ,hm.qK⟩;refine(hm.iQ i e5 b (kx i e5 hi).2 hk).mono (bO.le_refl D) λq aP aB=>?_;rcases ee.1 (mz.mem_iff.1 aP)with rfl | aP;·exact((kx i e5 hi).1 (hm.inj _ _ _ _ _ _ (kx i e5 hi).2 au hk a2 aB.symm)).elim
   ·exact aP
  ·cases h
 ·cases h
def alz(aM:cU X.P X.E)(aj:∀ d,o.dst=some d->d<X.n){v:ao}(aH:o.op=.slice t x (some lo) (some hi) (some mx))(h:QD X.E t (dg al x) (dg al lo) (dg al hi) (dg al mx)=some v)
  (H:ji D F al o.op.operands.toList) (hm:c8 (dM X G pr) D m I M) (k:∀ x,gj D x v->K (put o.dst x F) C I M):bw X o F C I M K:=by
 unfold QD at h;split at h
 ·rename_i sz hC z e id off n c ez l cJ bd hc gb av ad eT gw ij;obtain⟨aF,he,dZ⟩:=cp h;obtain⟨ag,fj⟩:=fU dZ;simp only[cB]at ag;obtain⟨b1,b0,cD,hM⟩:=ag;cases fj;have b1:=bJ b1;have b0:=bJ b0;have cD:=bJ cD;have hM:l+1<=gb:=bJ hM;obtain⟨PF,dF,oU⟩:=H.bE (x:=x) (by rw[aH];simp[Op.operands]) ad;obtain⟨wB,aG,a8⟩:=H.bE (x:=lo) (by rw[aH];simp[Op.operands]) eT;obtain⟨rT,a7,ba⟩:=H.bE (x:=hi) (by rw[aH];simp[Op.operands]) gw;obtain⟨z7,cr,bP⟩:=H.bE (x:=mx) (by rw[aH];simp[Op.operands]) ij;rw[a8.int]at aG;rw[ba.int]at a7;rw[bP.int]at cr;simp only[aT]at oU;obtain⟨a,a2,rfl⟩:=oU;refine bw.slice3 aM aH aj av rfl he l bd gb dF aG a7 cr b1 b0 cD (k _ (.val ?_));simp only[aT];refine⟨a,a2,?_⟩;rw[bU (by omega),k8,eP _ rfl];simp only[zH,D8,D9,s0]
 ·cases h
def ZI{sz hC:Nat}{z:List Value}{n c h m:Nat}(aH:o.op=.slice t x none (some hi) (some mx))(av:X.E t=some ⟨sz,hC,z,.slice e⟩)(he:X.E e=some aF)
  (ad:bE F x=.val (.slice a n c)) (cv:bE F hi=.val (.int cJ (h:Nat))) (hm:bE F mx=.val (.int hc (m:Nat))) (aa:h<=m) (ab:m<=c) (k:K (put o.dst (.val (.slice (if m=0 then a else a.map (·.add (0*aF.size))) (h-0) (m-0))) F) C I M):gT X o F C I M K:=by
 obtain⟨dst,Cl,ty,pos,after,guard⟩:=o;simp only at aH;subst aH;have aG:dw (di F) x=.val (.slice a n c):=ad;have a7:dw (di F) hi=.val (.int cJ (h:Nat)):=cv;have cr:dw (di F) mx=.val (.int hc (m:Nat)):=hm;simp only[gT,cF,av,he,aG,a7,cr,ue,k8];exact⟨h,m,rfl,rfl,aa,ab,k⟩
def alA(aM:cU X.P X.E)(aj:∀ d,o.dst=some d->d<X.n){v:ao}(aH:o.op=.slice t x none (some hi) (some mx))(h:QC X.E t (dg al x) (dg al hi) (dg al mx)=some v)
  (H:ji D F al o.op.operands.toList) (hm:c8 (dM X G pr) D m I M) (k:∀ x,gj D x v->K (put o.dst x F) C I M):gT X o F C I M K:=by
 unfold QC at h;split at h
 ·rename_i sz hC z e id off n c cJ bd hc gb av ad gw ij;obtain⟨aF,he,dZ⟩:=cp h;obtain⟨ag,fj⟩:=fU dZ;simp only[cB]at ag;obtain⟨b0,cD,hM⟩:=ag;cases fj;have b0:=bJ b0;have cD:=bJ cD;have hM:0+1<=gb:=bJ hM;obtain⟨PF,dF,oU⟩:=H.bE (x:=x) (by rw[aH];simp[Op.operands]) ad;obtain⟨rT,a7,ba⟩:=H.bE (x:=hi) (by rw[aH];simp[Op.operands]) gw;obtain⟨z7,cr,bP⟩:=H.bE (x:=mx) (by rw[aH];simp[Op.operands]) ij;rw[ba.int]at a7;rw[bP.int]at cr;simp only[aT]at oU;obtain⟨a,a2,rfl⟩:=oU;refine ZI aH av he dF a7 cr b0 cD (k _ (.val ?_));simp only[aT];refine⟨a,a2,?_⟩;rw[bU (by omega),k8,eP _ rfl];simp
 ·rename_i sz hC z e id off a7 n cJ bd hc gb av ad gw ij;obtain⟨aF,he,dZ⟩:=cp h;obtain⟨ag,fj⟩:=fU dZ;simp only[cB]at ag;obtain⟨b0,cD,hM⟩:=ag;cases fj;have b0:=bJ b0;have cD:=bJ cD;have hM:0+1<=gb:=bJ hM;obtain⟨PF,dF,oU⟩:=H.bE (x:=x) (by rw[aH];simp[Op.operands]) ad;obtain⟨rT,a7,ba⟩:=H.bE (x:=hi) (by rw[aH];simp[Op.operands]) gw;obtain⟨z7,cr,bP⟩:=H.bE (x:=mx) (by rw[aH];simp[Op.operands]) ij;rw[ba.int]at a7;rw[bP.int]at cr;simp only[aT]at oU;obtain⟨a,a2,bp,rfl⟩:=oU;refine ZI aH av he dF a7 cr b0 (by omega) (k _ (.val ?_));simp only[aT];refine⟨a,a2,?_⟩;rw[bU (by omega),k8,eP _ rfl];simp
 ·cases h
def alB(aj:∀ d,o.dst=some d->d<X.n){v:ao}(aH:o.op=.unOp .xor t x)(h:QE (dg al x)=some v)(H:ji D F al o.op.operands.toList)(k:∀ x,gj D x v->K (put o.dst x F) C I M):gT X o F C I M K:=by
 unfold QE at h;split at h
 ·rename_i n ad;cases h;obtain⟨u,e,hu⟩:=H.bE (x:=x) (by rw[aH];simp[Op.operands]) ad;rw[hu.int]at e;have q:bw X o F C I M K:=bw.GB aH aj e (k _ (.val (by simp only[aT])));obtain⟨dst,Cl,ty,pos,after,guard⟩:=o;simp only at aH;subst aH;exact q
 ·cases h
def alC(aH:o.op=.slice t x (some lo) (some hi) (some mx))(k:bw X o F C I M K):gT X o F C I M K:=by
 obtain⟨dst,Cl,ty,pos,after,guard⟩:=o;simp only at aH;subst aH;simp only[gT,cF];split
 ·rename_i e;cases e
 ·rename_i e;cases e
 ·split
  ·rename_i e _;cases e
  ·exact k
 ·exact k
def ZJ:Op->Bool
 | .makeMap .. | .lookup .. | .mapUpdate .. | .insert ..=>true| .call { callee:=.builtin .append,.. }=>true| .call { callee:=.builtin .copy,.. }=>true| .call { callee:=.builtin .unsafeString,.. }=>true| _=>false
def z'(aH:o.op=op)(h:ZJ op=true)(k:bw X o F C I M K):gT X o F C I M K:=by
 obtain⟨dst,Cl,ty,pos,after,guard⟩:=o;simp only at aH;subst aH;unfold ZJ at h;split at h<;>first | exact k | cases h
def alD(aM:cU X.P X.E)(aj:∀ d,o.dst=some d->d<X.n)(h:QM (dM X G pr) m o al=some (v,m'))(H:ji D F al o.op.operands.toList)(hm:c8 (dM X G pr) D m I M)(k:rU X G pr D m I M v m' o.dst F C K):gT X o F C I M K:=by
 unfold QM at h;split at h
 ·rename_i t x y aH;exact ak9 aH h H hm k
 ·rename_i t aH;exact z' aH rfl (Zw aM aj aH h (by simp) hm k)
 ·rename_i t x aH;split at h
  ·rename_i gb n ad;refine z' aH rfl (Zw aM aj aH h (λy aE=>?_) hm k);cases aE;obtain⟨u,aG,a8⟩:=H.bE (x:=x) (by rw[aH];simp[Op.operands]) ad;rw[a8.int]at aG;exact⟨_,_,aG⟩
  ·cases h
 ·rename_i t x y ok aH;exact z' aH rfl (alb aM aj aH h H hm k)
 ·rename_i t x y z aH;exact z' aH rfl (Zy aM (.inl aH) h H hm k)
 ·rename_i t x y z aH;exact z' aH rfl (Zy aM (.inr aH) h H hm k)
 ·rename_i s d x aH;have Ru:=ald aM aj aH h H hm k;obtain⟨dst,Cl,ty,pos,after,guard⟩:=o;simp only at aH;subst aH;have qy:∃ a b z,X.E d=some ⟨a,b,z,.string⟩:=by
   unfold Lm at h;split at h;·exact⟨_,_,_,by assumption⟩
   ·exact⟨_,_,_,by assumption⟩
   ·exact⟨_,_,_,by assumption⟩
   ·cases h
  obtain⟨a,b,z,qy⟩:=qy;simp only[gT,cF,qy];split;·rename_i e _;cases e
  ·exact Ru
 ·rename_i b args fJ aH;have Rv:ji D F al args.toList:=by rw[aH]at H;simpa[Op.operands,Call.operands]using H
  unfold YK at h;split at h;·exact z' aH rfl (alw aM aj aH h Rv hm k)
  ·exact z' aH rfl (ale aM aj aH h Rv hm k)
  ·exact z' aH rfl (alx aM aj aH h Rv hm k)
  ·cases h
 ·cases h
end
def H7(Y:gH)(call:ao->List ao->bo->Option (ao×bo)):Prop:=∀ f l m v m',call f l m=some (v,m')->∀ (D:bO) (I:aI) (M:List aD) (u:Value) (us:List Value),aT D f u->bN D l us->c8 Y D m I M -> (∃ g cN cs,u=.func (.func g) cN cs/\Spec Y.P g (cN.toList++us++cs.toList) I M λr I' M'=>∃ bC,D.ext bC m.n/\aT bC v r/\c8 Y bC m' I' M') \/ ∃ q,u=.func (.yield q) #[] #[]/\Dn Y.P q us I M λr I' M'=>∃ bC,D.ext bC m.n/\aT bC v r/\c8 Y bC m' I' M'
def vd(dst:Option Nat)(v:ao)(D:bO)(F dk:Fr):Prop:=(∀ d,dst=some d->gj D (dk d) v)/\∀ (D:bO) t u',dst≠some t->gj D (F t) u'->gj D (dk t) u'
def vd.put{v:ao}{x:dA}(F:Fr)(h:gj D x v):vd dst v D F (put dst x F):=by
 constructor
 ·rintro d rfl;simpa[Go.V.put,fY]using h
 ·intro D t u' bn h;cases dst with
  |none=>exact h| some d=>have:t≠d:=λe=>bn (by rw[e]);simp only[Go.V.put,fY,hp this,b'];exact h
def z3.v(h:z3 dst u F dk){v:ao}(ah:aT D v u):vd dst v D F dk:=⟨λd aj=>by rw[h.1 d aj];exact .val ah,h.2⟩
section
variable{X:cV}{G:GT}{pr:lU}{D:bO}{m m':bo}{F:Fr}{al:be ao}{C:dB}{I:aI}{M:List aD}{K:gd}{o:Oper}{v:ao}
def LO(X:cV)(G:GT)(pr:lU)(o:Oper)(al:be ao)(m:bo)(v:ao)(m':bo):Prop:=m.n<=m'.n/\∀ (D:bO) (F:Fr) (C:dB) (I:aI) (M:List aD) (K:gd),ji D F al o.op.operands.toList->c8 (dM X G pr) D m I M -> (∀ bC dk C' I' M',D.ext bC m.n->vd o.dst v bC F dk->c8 (dM X G pr) bC m' I' M'->K dk C' I' M')->gT X o F C I M K
def alE(aH:o.op=op)(ae:lB X.E op=0)(h:cF X op (di F) C I M (λx=>K (put o.dst x F) C I M) (bw X o F C I M K)):gT X o F C I M K:=by
 obtain⟨dst,Cl,ty,pos,after,guard⟩:=o;simp only at aH;subst aH;cases Cl with
 |call c=>
  obtain⟨callee,args,fJ⟩:=c;cases callee with
  |value f=>simp[lB]at ae| invoke r n=>exact h| builtin b=>exact h
 |alloc t=>simp[lB]at ae| box t x=>simp[lB]at ae| store t x y=>simp[lB]at ae| buildSlice t l ps=>simp[lB]at ae| makeSlice t l c=>simp[lB]at ae| _=>exact h
def ZK(aM:cU X.P X.E)(aj:∀ d,o.dst=some d->d<X.n){v:ao}(ae:lB X.E o.op=0)(h:u3 X.P X.E G m.t o.op al=some v)(H:ji D F al o.op.operands.toList)(hm:c8 (dM X G pr) D m I M)
  (k:∀ x,gj D x v->K (put o.dst x F) C I M):gT X o F C I M K:=by
 unfold u3 at h;split at h
 ·rename_i t x aH;exact alB aj aH h H k
 ·rename_i t x lo hi mx aH;exact alC aH (alz aM aj aH h H hm k)
 ·rename_i t x hi mx aH;exact alA aM aj aH h H hm k
 ·exact alE rfl ae (akX aM h H hm k)
def Rw{K:be ao->Option R}{r:R}(h:pQ dst al v K=some r):∃ c6,K c6=some r/\(dst=none->c6=al)/\∀ d,dst=some d->∀ t w,c6.get t=some w->(t=d/\w=v)\/(t≠d/\al.get t=some w):=by
 unfold pQ at h;cases dst with
 |none=>exact⟨al,h,λ_=>rfl,λd aj=>by cases aj⟩
 |some d=>
  have bd:(QF v λv=>al.nH (some v) d K)=some r:=h;rw[akd]at bd;obtain⟨c6,aa,ab⟩:=be.o2 (some v) al d;rw[aa]at bd;refine⟨c6,bd,(λe=>by cases e),λig aj t w hw=>?_⟩;cases aj;rcases ab t w hw with⟨aG,a7⟩ | ⟨aG,a7⟩;·exact .inl ⟨aG,(o4 a7).symm⟩
  ·exact .inr ⟨aG,a7⟩
def ZL(aM:cU X.P X.E)(kn:∀ d,d<X.n->X.gx.contains d=true)(aj:∀ d,o.dst=some d->d<X.n)(mP:H7 (dM X G pr) call){K:be ao->bo->Option R}{r:R}
  (h:zR (dM X G pr) call o al m K=some r):∃ v m' c6,LO X G pr o al m v m'/\(pQ o.dst al v λal=>K al m')=some r/\K c6 m'=some r/\(o.dst=none->c6=al)/\∀ d,o.dst=some d->∀ t w,c6.get t=some w->(t=d/\w=v)\/(t≠d/\al.get t=some w):=by
 have fin:∀ {v:ao} {m':bo},LO X G pr o al m v m'->(pQ o.dst al v λal=>K al m')=some r->∃ v m' c6,LO X G pr o al m v m'/\(pQ o.dst al v λal=>K al m')=some r/\K c6 m'=some r/\(o.dst=none->c6=al)/\∀ d,o.dst=some d->∀ t w,c6.get t=some w->(t=d/\w=v)\/(t≠d/\al.get t=some w):=fun {v m'} ap aC=>by obtain⟨c6,aa,ab,ak⟩:=Rw aC;exact⟨v,m',c6,ap,aC,aa,ab,ak⟩
 unfold zR at h;split at h
 ·
  rename_i f args fJ aH;unfold YL at h;obtain⟨tO,aA,h⟩:=cp h;obtain⟨l,ay,h⟩:=cp h;obtain⟨⟨v,m'⟩,ap,h⟩:=cp h;obtain⟨aB,h⟩:=fU h;refine fin ⟨bJ aB,λD F C I M K sM hm ae=>?_⟩ h;rw[aH]at sM;obtain⟨u,aG,a8⟩:=sM.bE (x:=f) (by simp[Op.operands,Call.operands]) aA;obtain⟨us,a7,ba⟩:=sM.mH (l:=args.toList) (by intro y aE;simp[Op.operands,Call.operands];exact .inr (by simpa using aE)) ay;obtain⟨dst,Cl,ty,pos,after,guard⟩:=o;simp only at aH;subst aH;rcases mP _ _ _ _ _ ap D I M u us a8 ba hm with⟨g,cN,cs,rfl,ar⟩ | ⟨q,rfl,ar⟩
  ·simp only[gT,aG,a7];exact bc.whole _ ar λr I' M' bt ad=>by obtain⟨bC,aa,ab,ak⟩:=ad;exact ae bC _ C I' M' aa (.put F (.val ab)) ak
  ·simp only[gT,aG,a7];refine bw.yield rfl aj aG a7 ⟨M,[],_,by simp,ar,λr I' M' bt ad=>?_⟩;obtain⟨bC,aa,ab,ak⟩:=ad;rw[ef];exact ae bC _ C I' M' aa (.put F (.val ab)) ak
 ·rename_i op dY;unfold YP at h;split at h
  ·rename_i lP;unfold YN at h;obtain⟨v,ah,h⟩:=cp h;refine fin ⟨cc _,λD F C I M K sM hm ae=>?_⟩ h;exact ZK aM aj lP ah sM hm λx ad=>ae D _ C I M bO.o6 (.put F ad) hm
  ·unfold YM at h;obtain⟨d,fi,h⟩:=cp h;obtain⟨⟨l,T,c,mk⟩,a2,h⟩:=cp h;obtain⟨m2,ab,aB,ak⟩:=Rf (Y:=dM X G pr) h;refine fin (v:=mk m.n) (m':=m2) ⟨by omega,λD F C I M K sM hm ae=>?_⟩ (by rw[fi];exact ab);refine Zo aM kn aj a2 (by rw[fi];rfl) sM λb vs u dk C' bt aA iH c2 ap hu He=>?_;have aJ:=ak (vs:=vs) [] (b:=b) (c:=c) hm aA iH (by simpa using c2) ap;rw[ef]at aJ;exact ae _ dk C' I _ bO.EG (He.v (hu _ _ (bO.pS _ _ _))) aJ
  ·unfold YO at h;obtain⟨⟨v,m'⟩,ad,h⟩:=cp h;obtain⟨aB,h⟩:=fU h;refine fin ⟨bJ aB,λD F C I M K sM hm ae=>?_⟩ h;exact alD aM aj ad sM hm λbC u M' aa ab ak=>ae bC _ C I M' aa (.put F (.val ab)) ak
end
def lD(X:cV)(G:GT)(pr:lU)(D0:bO)(n0:Nat)(al:be ao)(m:bo)(a:Act)(w:World):Prop:=
 ∃ D F C I M,Rel X a w F C I M/\qL D F al/\c8 (dM X G pr) D m I M/\D0.ext D n0/\n0<=m.n
section
variable{X:cV}{G:GT}{pr:lU}{D0:bO}{n0:Nat}{m m':bo}{al c6:be ao}{a:Act}{w:World}
def bO.ZM{n:Nat}(h:D.ext bC n)(bd:bC.ext LI fT)(aB:n<=fT):D.ext LI n:=λi hi=>by rw[bd i (by omega),h i hi]
def alF{ops:Array Oper}{o:Oper}(h:u5 ops.toList o al=some b)(bG:∀ t,eU β (F t) (a.tmps.getD t undef))(xd:qL D F al):Region.wanted o (yielded ops a.tmps)=b:=by
 unfold u5 at h;split at h
 ·rename_i au;cases h;simp[Region.wanted,au]
 ·rename_i j c au;split at h
  ·cases h
  ·rename_i d ai;have im:(ops[j]?).bind (·.dst)=some d:=by rw[zX]at ai;simpa using ai
   have aE:=FR im a.tmps;split at h
   ·rename_i q aP;cases h;have ar:=xd _ _ aP;have ah:a.tmps.getD d undef=.bool q:=by
     have aa:=bG d;rcases ar with⟨u,e,hu⟩ | ⟨fD,cW,e⟩;·rw[e]at aa;rw[aa,hu.bool]
     ·cases cW;rw[e]at aa;exact aa
    simp[Region.wanted,au,aE,Dd ah]
   ·rename_i l aP;cases h;have ar:=xd _ _ aP;obtain⟨u,e,hu⟩:=ar.wy (by simp);obtain⟨vs,_,rfl⟩:=hu.Q2;have aa:=bG d;rw[e]at aa;have um:yielded ops a.tmps j=none:=by
     rw[aE];cases kp:a.tmps[d]? with
     |none=>rfl| some v=>simp only[eU,pj,kp,jV]at aa;subst aa;rfl
    simp[Region.wanted,au,um]
   ·cases h
def ZN{o:Oper}{K:be ao->Option R}{r:R}(h:B' o al K=some r):∃ c6,K c6=some r/\(o.dst=none->c6=al)/\∀ d,o.dst=some d->∀ t w,c6.get t=some w->(t=d/\w=.t [])\/(t≠d/\al.get t=some w):=by
 unfold B' at h;cases aj:o.dst with
 |none=>rw[aj]at h;exact⟨al,h,λ_=>rfl,λd e=>by cases e⟩
 |some d=>
  rw[aj]at h;obtain⟨c6,aa,ab⟩:=be.o2 (some (ao.t [])) al d;simp only[aa]at h;refine⟨c6,h,(λe=>by cases e),λig fy t w hw=>?_⟩;cases fy;rcases ab t w hw with⟨aG,a7⟩ | ⟨aG,a7⟩;·exact .inl ⟨aG,(o4 a7).symm⟩
  ·exact .inr ⟨aG,a7⟩
def qL.step{v:ao}(h:qL D F al)(bp:D.le bC)(aC:vd dst v bC F dk)(aa:dst=none->c6=al)(ab:∀ d,dst=some d->∀ t w,c6.get t=some w->(t=d/\w=v)\/(t≠d/\al.get t=some w)):qL bC dk c6:=λt u av=>by
 cases aj:dst with
 |none=>rw[aa aj]at av;exact aC.2 bC t u (by rw[aj];simp) ((h t u av).mono bp)
 |some d=>
  rcases ab d aj t u av with⟨rfl,rfl⟩ | ⟨bn,au⟩;·exact aC.1 _ aj
  ·exact aC.2 bC t u (by rw[aj];intro e;cases e;exact bn rfl) ((h t u au).mono bp)
def Rx(aM:cU X.P X.E)(kn:∀ d,d<X.n->X.gx.contains d=true){call:ao->List ao->bo->Option (ao×bo)}(mP:H7 (dM X G pr) call)(ops:Array Oper)(Q:Exit->Act->World->Prop)(q5:∀ a w,lD X G pr D0 n0 c6 m' a w->Q .normal a w):∀ (l:List Oper) (k:Nat),(∀ j,l[j]?=ops[k+j]?)->(∀ o∈l,∀ d,o.dst=some d->d<X.n)->∀ {al m a w},Et (dM X G pr) call ops.toList l al m=some (c6,m') -> lD X G pr D0 n0 al m a w->wpOpsIn (g3 X) 0 X.P ops Q (List.range' k l.length) a w
 |[],k,_,_,al,m,a,w,h,ar=>by have bd:some (al,m)=some (c6,m'):=h;cases bd;exact q5 _ _ ar
 |o::bi,k,ay,aj,al,m,a,w,h,ar=>by
  have az:ops[k]?=some o:=by simpa using(ay 0).symm
  have ou:∀ j,bi[j]?=ops[k+1+j]?:=λj=>by have:=ay (j+1);simpa[s0,C4 1 j]using this
  have fy:∀ o∈bi,∀ d,o.dst=some d->d<X.n:=λo aH=>aj o (by simp[aH]);have yO:=aj o (by simp);have bd:bq (u5 ops.toList o al) none (λw=>bW w (zR (dM X G pr) call o al m λal m=>Et (dM X G pr) call ops.toList bi al m) (B' o al λal=>Et (dM X G pr) call ops.toList bi al m))=some (c6,m'):=h;obtain⟨b,ag,bd⟩:=cp bd;obtain⟨D,F,C,I,M,⟨β,aW⟩,bG,hm,ad,aB⟩:=ar;have hw:=alF ag aW.al bG;simp only[dx,FI,wpOpsIn,az];rw[hw];cases b with
  |true=>have ab:zR (dM X G pr) call o al m (λal m=>Et (dM X G pr) call ops.toList bi al m)=some (c6,m'):=bd;obtain⟨v,c5,fA,⟨LP,H8⟩,-,ak,a8,ba⟩:=ZL aM kn yO mP ab;simp only[p2];refine sZ (λbM w'=>?_) (Dc aM yO ⟨β,aW⟩ (H8 D F C I M (λdk C' I' M'=>∃ bC,D.ext bC m.n/\qL bC dk fA/\c8 (dM X G pr) bC c5 I' M') (bG.op _) hm λbC dk C' I' M' aG a7 cr=>⟨bC,aG,bG.step (hm.le aG) a7 a8 ba,cr⟩));rintro⟨dk,C',I',M',eY,bC,aG,a7,cr⟩;exact Rx aM kn mP ops Q q5 bi (k+1) ou fy ak ⟨bC,dk,C',I',M',eY,a7,cr,bO.ZM ad aG aB,k9 aB LP⟩
  |false=>have ab:B' o al (λal=>Et (dM X G pr) call ops.toList bi al m)=some (c6,m'):=bd;obtain⟨fA,ak,a8,ba⟩:=ZN ab;simp only[k7,l5];refine⟨λ_ _=>trivial,Rx aM kn mP ops Q q5 bi (k+1) ou fy ak ⟨D,put o.dst (.val undef) F,C,I,M,⟨β,aW.put (x:=.val undef) yO rfl⟩,bG.step (bO.le_refl D) (.put F (.val .undef)) a8 ba,hm,ad,aB⟩⟩
end
def alG(aV:∀ j e,mL ops j e->e<j)(J:(Nat->Prop)->Act->World->Prop)(step:∀ (L:Nat->Prop) a w q o,J L a w->Bf ops L->(∀ i,L i->i<ops.length)->ops[q]?=some o->¬ L q->(∀ e,mL ops q e->L e) -> (Region.wanted o (yielded ops.toArray a.tmps)=true->o.wpIn (g3 X) 0 X.P a w (J λj=>L j\/j=q) Q)/\(Region.wanted o (yielded ops.toArray a.tmps)=false->J (λj=>L j\/j=q) (a.put o.dst undef) w))
  (fin:∀ a w,J (λi=>i<ops.length) a w->Q .normal a w):∀ (e1:Nat) (du:Array Bool) (a:Act) (w:World),du.size=ops.length->todo ops du<=e1->Bf ops (λi=>du.getD i false=true) ->
   J (λi=>du.getD i false=true) a w->wpAnyIn (g3 X) 0 X.P .any ops.toArray Q e1 du a w:=by
 have fH:∀ (du:Array Bool) (i:Nat),du.getD i false=true->i<du.size:=λdu i h=>by refine F4 λaB=>?_;simp[Array.getD,aB]at h
 have full:∀ (du:Array Bool) a w,du.size=ops.length->Region.ready .any ops.toArray du=[]->J (λi=>du.getD i false=true) a w->Q .normal a w:=λdu a w dj oB bk=>by
  have all:∀ i,i<ops.length->du.getD i false=true:=λi=>by
   induction i using Nat.strongRecOn with
   |ind i aN=>
    intro hi;refine F4 λaB=>?_;have aH:ops[i]?=some ops[i]:=da hi;have:i∈Region.ready .any ops.toArray du:=(mem_ready dj).2 ⟨_,aH,aB,λe he=>by
     have aa:=aV i e he;exact aN e aa (by omega)⟩
    rw[oB]at this;cases this
  have e:(λi=>du.getD i false=true)=λi=>i<ops.length:=by funext i;simp only[eq_iff_iff];exact⟨λh=>by have:=fH du i h;omega,all i⟩
  rw[e]at bk;exact fin a w bk
 intro e1
 induction e1 with
 |zero=>
  intro du a w dj aA d' bk;have oB:Region.ready .any ops.toArray du=[]:=by
   cases af:Region.ready .any ops.toArray du with
   |nil=>rfl| cons i l=>obtain⟨o,aH,aB,_⟩:=(mem_ready dj).1 (by rw[af];simp:i∈Region.ready .any ops.toArray du);have:=JU (h5.1 aH).1 dj aB;omega
  exact⟨oB,full du a w dj oB bk⟩
 |succ e1 aN=>
  intro du a w dj aA d' bk;refine⟨λoB=>full du a w dj oB bk,λq aP=>?_⟩;obtain⟨o,aH,aB,aj⟩:=(mem_ready dj).1 aP;have ch:=(h5.1 aH).1;have gW:=U6 (du:=du) (i:=q) (by omega);have next:∀ bM w',J (λj=>du.getD j false=true\/j=q) bM w'->wpAnyIn (g3 X) 0 X.P .any ops.toArray Q e1 (du.setIfInBounds q true) bM w':=λbM w' h=>by
   refine aN _ bM w' (by simpa using dj) ?_ ?_ (by rw[gW];exact h);·have:=JU ch dj aB;omega
   ·rw[gW];rintro j e (ai | rfl) he
    ·exact .inl (d' j e ai he)
    ·exact .inl (aj e he)
  obtain⟨s1,s2⟩:=step _ a w q o bk d' (λi hi=>by have:=fH du i hi;omega) aH aB aj;have Gg:ops.toArray[q]?=some o:=by simpa using aH
  unfold wpOpIn;simp only[Gg];cases hw:Region.wanted o (yielded ops.toArray a.tmps)with
  |true=>
   simp only[p2];exact sZ next (s1 hw)
  |false=>simp only[k7,l5];exact⟨λ_ _=>trivial,next _ _ (s2 hw)⟩
def ZO{S:List bo}{lo hi:Nat}{p:bo->Bool}{m:bo}(h:Ew S lo hi p=true)(aa:lo<=j)(ab:j<=hi)(ai:S[j]?=some m):p m=true:=by unfold Ew at h;refine fx.1 h m ?_;refine rc (i:=j-lo) ?_;rw[k6,bQ (by omega),nj,show lo+(j-lo)=j by omega];exact ai
def filter_le{p:α->Bool}:∀ {l:List α},(∀ q e,l[q]?=some e->p e=true->q<j)->(l.filter p).length<=j:=by
 intro l h;have aG:l.filter p=(l.take j).filter p:=by
  conv=>lhs;rw[<-sp j l]
  rw[BY];have:(l.drop j).filter p=[]:=by rw[Ra];intro a a2 aC;obtain⟨q,aP⟩:=KW a2;rw[nj]at aP;have:=h _ _ aP aC;omega
  rw[this,ef]
 rw[aG];refine k9 (Ba _ _) ?_;simp;omega
def le_filter{p:α->Bool}{l:List α}(ai:j<=l.length)(h:∀ q e,q<j->l[q]?=some e->p e=true):j<=(l.filter p).length:=by
 have aG:(l.take j).filter p=l.take j:=by
  rw[List.filter_eq_self];intro a a2;obtain⟨q,aP⟩:=KW a2;rw[k6]at aP;split at aP;·exact h q a (by assumption) aP
  ·cases aP
 have a7:l.filter p=(l.take j).filter p++(l.drop j).filter p:=by
  conv=>lhs;rw[<-sp j l]
  rw[BY]
 rw[a7,aG,cm,hU];omega
mutual
def ZP{D:bO}:∀ {x y:ao} {u:Value},Ev x y=true->aT D x u->aT D y u
 |x,y,u,h,ad=>by
  cases x<;>cases y<;>simp only[Ev,k7,cB]at h
  case b.b=>
   have:=eq_of_beq h;subst this;exact ad
  case i.i=>
   obtain⟨aa,ab⟩:=h;have:=IntKind.Da aa;subst this;rw[Cb,hR]at ab;subst ab;exact ad
  case s.s=>
   rw[Ez,hR]at h;subst h;exact ad
  case pn.pn=>exact ad
  case p.p=>
   obtain⟨aa,ab⟩:=h;have:=dQ aa;subst this;have:=dQ ab;subst this;exact ad
  case g.g=>
   obtain⟨aa,ab⟩:=h;have:=dQ aa;subst this;have:=dQ ab;subst this;exact ad
  case sn.sn=>exact ad
  case sl.sl=>
   obtain⟨aa,ab,ak,aJ⟩:=h;have:=dQ aa;subst this;have:=dQ ab;subst this;have:=dQ ak;subst this;have:=dQ aJ;subst this;exact ad
  case sx.sx=>
   obtain⟨aa,ab,ak,aJ⟩:=h;have:=dQ aa;subst this;have:=dQ ab;subst this;have:=dQ ak;subst this;have:=dQ aJ;subst this;exact ad
  case gs.gs=>
   obtain⟨aa,ab,ak,aJ⟩:=h;have:=dQ aa;subst this;have:=dQ ab;subst this;have:=dQ ak;subst this;have:=dQ aJ;subst this;exact ad
  case mn.mn=>exact ad
  case m.m=>have:=dQ h;subst this;exact ad
  case f.f=>
   obtain⟨aa,ab,ak⟩:=h;have:=dQ aa;subst this;simp only[aT]at ad |-;obtain⟨vs,ws,a8,ba,bP⟩:=ad;exact⟨vs,ws,EK ab a8,EK ak ba,bP⟩
  case y.y=>have:=dQ h;subst this;exact ad
  case fn.fn=>exact ad
  case ni.ni=>exact ad
  case t.t=>
   simp only[aT]at ad |-;obtain⟨vs,a8,ba⟩:=ad;exact⟨vs,EK h a8,ba⟩
  case a.a=>
   simp only[aT]at ad |-;obtain⟨vs,a8,ba⟩:=ad;exact⟨vs,EK h a8,ba⟩
def EK{D:bO}:∀ {x y:List ao} {us:List Value},wx x y=true->bN D x us->bN D y us
 |[],[],us,h,ad=>ad| [],_::_,us,h,ad=>by simp[wx]at h
 |_::_,[],us,h,ad=>by simp[wx]at h
 |x::l,y::m,us,h,ad=>by simp only[wx,cB]at h;obtain⟨u,us,a8,ba,rfl⟩:=ad.kE;exact .cons (ZP h.1 a8) (EK h.2 ba)
end
def H9(dst:Option Nat)(al:be ao)(v:ao)(c6:be ao):Prop:=(dst=none->c6=al)/\∀ d,dst=some d->∀ t w,c6.get t=some w->(t=d/\w=v)\/(t≠d/\al.get t=some w)
def LQ(m m':bo)(l:List ao)(T:Nat):Prop:=m'.n=m.n+1/\(∀ id e,m'.t.get id=some e->id=m.n\/m.t.get id=some e)
def x'(m m':bo):Prop:=m.n<=m'.n/\∀ id e,id<m.n->m'.t.get id=some e->m.t.get id=some e
def x'.refl(m:bo):x' m m:=⟨cc _,λ_ _ _ h=>h⟩
def x'.trans{a b c:bo}(h:x' a b)(k:x' b c):x' a c:=⟨k9 h.1 k.1,λid e hi he=>h.2 id e hi (k.2 id e (Jr hi h.1) he)⟩
def LQ.grow{m m':bo}{l:List ao}{T:Nat}(h:LQ m m' l T):x' m m':=⟨by rw[h.1];omega,λid e hi he=>by
 rcases h.2 id e he with aa | aa
 ·omega
 ·exact aa⟩
def alH{m:bo}{l:List ao}{T:Nat}{K:Nat->bo->Option R}{r:R}(h:u4 m l T K=some r):∃ m',K m.n m'=some r/\LQ m m' l T:=by unfold u4 at h;obtain⟨cs,aa,ab⟩:=be.x3 l (.nil:be ao) 0;rw[aa]at h;obtain⟨bm,ak,aJ⟩:=H2 h;exact⟨_,aJ,rfl,λid e hi=>(ak id e hi).imp (λq=>q.1) λq=>q.2⟩
def c8.grow{m m':bo}(h:c8 Y D m I M)(au:x' m m'):c8 Y D m' I M where
 iQ id e a aa ab:=h.iQ id e a (au.2 id e (h.jQ _ _ ab) aa) ab
 inj id iR e cW a bM aa tk ab lO ag:=h.inj id iR e cW a bM (au.2 id e (h.jQ _ _ ab) aa) (au.2 iR cW (h.jQ _ _ lO) tk) ab lO ag
 jQ id a ab:=Jr (h.jQ _ _ ab) au.1
 qK:=h.qK
inductive lX(X:cV)(G:GT)(pr:lU)(ops:List Oper):List (Nat×Nat)->be ao->bo->List (Nat×ao)->be ao->bo->List bo->List qJ->Prop
 |nil{al m}:lX X G pr ops [] al m [] al m [m] []| q {i o bi al m v c6 vs g1 gI S A} (aH:ops[i]?=some o) (ae:lB X.E o.op=0) (hw:u5 ops o al=some true) (ah:u3 X.P X.E G m.t o.op al=some v) (aC:H9 o.dst al v c6) (t:lX X G pr ops bi c6 m vs g1 gI S A) : lX X G pr ops ((i,0)::bi) al m ((i,v)::vs) g1 gI S (bif qc o.op then .load i o al v::A else A)| a {i o d bi al m m' l T c mk c6 vs g1 gI S A} (aH:ops[i]?=some o) (ae:lB X.E o.op=1) (hw:u5 ops o al=some true) (aj:o.dst=some d) (ah:B9 X.E o al=some (l,T,c,mk)) (aB:LQ m m' l T) (aC:H9 o.dst al (mk m.n) c6) (t:lX X G pr ops bi c6 m' vs g1 gI S A) : lX X G pr ops ((i,1)::bi) al m ((i,mk m.n)::vs) g1 gI S (.made i m.n l T::A)| e {i o bi al m m' v c6 vs g1 gI S A} (aH:ops[i]?=some o) (ae:lB X.E o.op=2) (hw:u5 ops o al=some true) (ap:LO X G pr o al m v m') (aC:H9 o.dst al v c6) (t:lX X G pr ops bi c6 m' vs g1 gI S A) : lX X G pr ops ((i,2)::bi) al m ((i,v)::vs) g1 gI (m::S) A| skip {i k o bi al m c6 vs g1 gI S A} (aH:ops[i]?=some o) (ae:lB X.E o.op=k) (hw:u5 ops o al=some false) (aC:H9 o.dst al (.t []) c6) (t:lX X G pr ops bi c6 m vs g1 gI S A) : lX X G pr ops ((i,k)::bi) al m ((i,.t [])::vs) g1 gI (bif Nat.beq k 2 then m::S else S) A
section
variable{X:cV}{G:GT}{pr:lU}{ops:List Oper}
def H'(aM:cU X.P X.E)(kn:∀ d,d<X.n->X.gx.contains d=true)(hj:∀ o∈ops,∀ d,o.dst=some d->d<X.n){call:ao->List ao->bo->Option (ao×bo)}(mP:H7 (dM X G pr) call):∀ (row:List (Nat×Nat)) {al:be ao} {m:bo} {mA:List bo} {n9:List qJ} {g1:be ao} {gI:bo} {k4:List bo} {nK:List qJ},o1 (dM X G pr) call ops row al m mA n9=some (g1,gI,k4,nK)->∃ vs S A,lX X G pr ops row al m vs g1 gI S A/\k4=S.reverse++mA/\(∀ h∈A,h∈nK)/\∀ h∈n9,h∈nK
 |[],al,m,mA,n9,g1,gI,k4,nK,h=>by simp only[o1,kk,G1]at h;obtain⟨rfl,rfl,rfl,rfl⟩:=h;exact⟨[],[m],[],.nil,by simp,by simp,λ_ h=>h⟩
 |(i,k)::bi,al,m,mA,n9,g1,gI,k4,nK,h=>by
  simp only[o1]at h;obtain⟨o,aH,h⟩:=cp h;obtain⟨w,hw,h⟩:=cp h;obtain⟨ae,h⟩:=fU h;rw[zX]at aH;have iP:lB X.E o.op=k:=dQ ae;have yO:=hj o (rc aH);cases w with
  |false=>
   have ab:B' o al (λal=>o1 (dM X G pr) call ops bi al m (bW (Nat.beq k 2) (m::mA) mA) n9)=some (g1,gI,k4,nK):=h;obtain⟨fA,ak,a8,ba⟩:=ZN ab;obtain⟨vs,S,A,av,cR,dH,ve⟩:=H' aM kn hj mP bi ak;refine⟨_,_,_,.skip aH iP hw ⟨a8,ba⟩ av,?_,dH,ve⟩;rw[cR];cases Nat.beq k 2<;>simp[bW]
  |true=>
   have aa:bW (Nat.beq k 0) (bq (u3 X.P X.E G m.t o.op al) none λv=>pQ o.dst al v λc6=>o1 (dM X G pr) call ops bi c6 m mA (bW (qc o.op) (.load i o al v::n9) n9)) (bW (Nat.beq k 1) (bq o.dst none λd=>bq (B9 X.E o al) none λr=>u4 m r.1 r.2.1 λid m=>pQ (some d) al (r.2.2.2 id) λal=>o1 (dM X G pr) call ops bi al m mA (.made i id r.1 r.2.1::n9)) (zR (dM X G pr) call o al m λal m'=>o1 (dM X G pr) call ops bi al m' (m::mA) n9))=some (g1,gI,k4,nK):=h;by_cases Hk:k=0
   ·subst Hk;have ab:(bq (u3 X.P X.E G m.t o.op al) none λv=>pQ o.dst al v λc6=>o1 (dM X G pr) call ops bi c6 m mA (bW (qc o.op) (.load i o al v::n9) n9))=some (g1,gI,k4,nK):=aa;obtain⟨v,ah,ab⟩:=cp ab;obtain⟨fA,ak,a8,ba⟩:=Rw ab;obtain⟨vs,S,A,av,cR,dH,ve⟩:=H' aM kn hj mP bi ak;refine⟨_,_,_,.q aH iP hw ah ⟨a8,ba⟩ av,cR,λy aE=>?_,λy aE=>ve y ?_⟩
    ·cases ay:qc o.op with
     |false=>rw[ay]at aE;exact dH y aE
     |true=>
      rw[ay]at aE;rcases ee.1 aE with rfl | aE;·refine ve _ ?_;rw[ay];simp[bW]
      ·exact dH y aE
    ·cases qc o.op with
     |false=>exact aE| true=>exact nJ _ aE
   rw[hp Hk]at aa;by_cases ez:k=1
   ·subst ez;have ab:(bq o.dst none λd=>bq (B9 X.E o al) none λr=>u4 m r.1 r.2.1 λid m=>pQ (some d) al (r.2.2.2 id) λal=>o1 (dM X G pr) call ops bi al m mA (.made i id r.1 r.2.1::n9))=some (g1,gI,k4,nK):=aa;obtain⟨d,aj,ab⟩:=cp ab;obtain⟨⟨l,T,c,mk⟩,a2,ab⟩:=cp ab;obtain⟨m2,ak,aB⟩:=alH ab;have oQ:pQ o.dst al (mk m.n) (λal=>o1 (dM X G pr) call ops bi al m2 mA (.made i m.n l T::n9))=some (g1,gI,k4,nK):=by rw[aj];exact ak
    obtain⟨fA,aJ,a8,ba⟩:=Rw oQ;obtain⟨vs,S,A,av,cR,dH,ve⟩:=H' aM kn hj mP bi aJ;refine⟨_,_,_,.a aH iP hw aj a2 aB ⟨a8,ba⟩ av,cR,λy aE=>?_,λy aE=>ve y (nJ _ aE)⟩;rcases ee.1 aE with rfl | aE;·exact ve _ (by simp)
    ·exact dH y aE
   ·rw[hp ez]at aa;have ab:zR (dM X G pr) call o al m (λal m'=>o1 (dM X G pr) call ops bi al m' (m::mA) n9)=some (g1,gI,k4,nK):=aa;obtain⟨v,c5,fA,H8,-,ak,a8,ba⟩:=ZL aM kn yO mP ab;obtain⟨vs,S,A,av,cR,dH,ve⟩:=H' aM kn hj mP bi ak;have eN:k=2:=by
     have:lB X.E o.op<=2:=by
      unfold lB;split<;>first | omega | (split<;>first | omega | (split<;>omega))
     rw[iP]at this;omega
    subst eN;exact⟨_,_,_,.e aH iP hw H8 ⟨a8,ba⟩ av,by rw[cR];simp,dH,ve⟩
def lX.head{al g1:be ao}{m gI:bo}{vs:List (Nat×ao)}{S:List bo}{A:List qJ}(h:lX X G pr ops row al m vs g1 gI S A):∃ m2 k4,S=m2::k4/\x' m m2:=by
 induction h with
 |nil=>exact⟨_,_,rfl,.refl _⟩| q _ _ _ _ _ _ aN=>exact aN| a _ _ _ _ _ aB _ _ aN=>obtain⟨m2,k4,aa,ab⟩:=aN;exact⟨m2,k4,aa,aB.grow.trans ab⟩
 |e _ _ _ _ _ _ _=>exact⟨_,_,rfl,.refl _⟩
 | @skip i k o bi al m c6 vs g1 gI S A _ _ _ _ _ aN=>
  cases ae:Nat.beq k 2 with
  |true=>exact⟨_,_,rfl,.refl _⟩| false=>simpa using aN
def lX.LR{al g1:be ao}{m gI:bo}{vs:List (Nat×ao)}{S:List bo}{A:List qJ}(h:lX X G pr ops row al m vs g1 gI S A):m.n<=gI.n/\∀ i c l T,.made i c l T∈A->m.n<=c/\i∈row.map (·.1):=by
 induction h with
 |nil=>exact⟨cc _,λ_ _ _ _ h=>by cases h⟩
 | @q i o bi al m v c6 vs g1 gI S A _ _ _ _ _ _ aN=>
  refine⟨aN.1,λgQ c l T hm=>?_⟩;have sf:.made gQ c l T∈A:=by
   cases ay:qc o.op with
   |false=>rw[ay]at hm;exact hm
   |true=>
    rw[ay]at hm;rcases ee.1 hm with e | hm;·cases e
    ·exact hm
  exact⟨(aN.2 gQ c l T sf).1,nJ _ (aN.2 gQ c l T sf).2⟩
 |a _ _ _ _ _ aB _ _ aN=>
  refine⟨k9 aB.grow.1 aN.1,λgQ c l T hm=>?_⟩;rcases ee.1 hm with e | hm;·cases e;exact⟨cc _,by simp⟩
  ·exact⟨k9 aB.grow.1 (aN.2 gQ c l T hm).1,nJ _ (aN.2 gQ c l T hm).2⟩
 |e _ _ _ ap _ _ aN=>exact⟨k9 ap.1 aN.1,λgQ c l T hm=>⟨k9 ap.1 (aN.2 gQ c l T hm).1,nJ _ (aN.2 gQ c l T hm).2⟩⟩| skip _ _ _ _ _ aN=>exact⟨aN.1,λgQ c l T hm=>⟨(aN.2 gQ c l T hm).1,nJ _ (aN.2 gQ c l T hm).2⟩⟩
def lX.split:∀ (a9:List (Nat×Nat)) {bi:List (Nat×Nat)} {al g1:be ao} {m gI:bo} {vs:List (Nat×ao)} {S:List bo} {A:List qJ},lX X G pr ops (a9++bi) al m vs g1 gI S A -> ∃ wE ya fA c5 vf yb wF,vs=wE++ya/\wE.map (·.1)=a9.map (·.1)/\S=vf++yb/\vf.length=(a9.filter λr=>Nat.beq r.2 2).length/\lX X G pr ops bi fA c5 ya g1 gI yb wF/\(∀ h∈wF,h∈A)/\m.n<=c5.n /\ (∀ t w,fA.get t=some w->(∃ i,(i,w)∈wE/\i' ops i=some t)\/((∀ i∈a9.map (·.1),i' ops i≠some t)/\al.get t=some w)) /\ (∀ i c l T,.made i c l T∈A->.made i c l T∈wF\/c<c5.n)
 |[],bi,al,g1,m,gI,vs,S,A,h=>⟨[],vs,al,m,[],S,A,rfl,rfl,rfl,rfl,h,λ_ h=>h,cc _,λt w hw=>.inr ⟨by simp,hw⟩,λ_ _ _ _ h=>.inl h⟩
 |(i,k)::a9,bi,al,g1,m,gI,vs,S,A,h=>by
  have fin:∀ {o:Oper} {c6:be ao} {m':bo} {v:ao} {s6:List (Nat×ao)} {k4 S:List bo} {nK A:List qJ},ops[i]?=some o->H9 o.dst al v c6->m.n<=m'.n->lX X G pr ops (a9++bi) c6 m' s6 g1 gI k4 nK -> (S=if Nat.beq k 2 then m::k4 else k4)->(∀ h∈nK,h∈A)->(∀ i c l T,.made i c l T∈A->.made i c l T∈nK\/c<m'.n) ->
    ∃ wE ya fA c5 vf yb wF,(i,v)::s6=wE++ya/\wE.map (·.1)=((i,k)::a9).map (·.1)/\S=vf++yb/\vf.length=(((i,k)::a9).filter λr=>Nat.beq r.2 2).length/\lX X G pr ops bi fA c5 ya g1 gI yb wF/\(∀ h∈wF,h∈A)/\m.n<=c5.n /\ (∀ t w,fA.get t=some w->(∃ i,(i,w)∈wE/\i' ops i=some t)\/((∀ gQ∈((i,k)::a9).map (·.1),i' ops gQ≠some t)/\al.get t=some w)) /\
     (∀ i c l T,.made i c l T∈A->.made i c l T∈wF\/c<c5.n):=by
   intro o c6 m' v s6 k4 S nK A aH aC LP av cR dH alI;obtain⟨wE,ya,fA,c5,vf,yb,wF,aG,a7,cr,ea,ls,lY,Aa,Ia,wG⟩:=lX.split a9 av;refine⟨(i,v)::wE,ya,fA,c5,(if Nat.beq k 2 then m::vf else vf),yb,wF,by rw[aG];rfl,by simp[a7],?_,?_,ls,λh cv=>dH h (lY h cv),k9 LP Aa,λt w hw=>?_,λi c l T hm=>?_⟩
   ·rw[cR,cr];split<;>simp
   ·simp only[ox];split<;>simp[ea]
   ·rcases Ia t w hw with⟨gQ,aa,ab⟩ | ⟨aa,ab⟩
    ·exact .inl ⟨gQ,nJ _ aa,ab⟩
    ·have qf:i' ops i=o.dst:=by simp[i',aH]
     cases aj:o.dst with
     |none=>
      rw[aC.1 aj]at ab;refine .inr ⟨λgQ cX=>?_,ab⟩;rcases ee.1 cX with e | cX;·rw[show gQ=i from e,qf,aj];simp
      ·exact aa gQ cX
     |some d=>
      rcases aC.2 d aj t w ab with⟨rfl,rfl⟩ | ⟨bn,ak⟩;·exact .inl ⟨i,by simp,by rw[qf,aj]⟩
      ·refine .inr ⟨λgQ cX=>?_,ak⟩;rcases ee.1 cX with e | cX
       ·rw[show gQ=i from e,qf,aj];exact λe=>bn (by cases e;rfl)
       ·exact aa gQ cX
   ·rcases alI i c l T hm with aa | aa
    ·exact wG i c l T aa
    ·exact .inr (Jr aa Aa)
  cases h with
  |q aH ae hw ah aC t=>
   rename_i o v c6 s6 nK;refine fin aH aC (cc _) t (by simp) (λh cv=>?_) λi c l T hm=>?_
   ·cases qc o.op with
    |false=>exact cv| true=>exact nJ _ cv
   ·cases ay:qc o.op with
    |false=>rw[ay]at hm;exact .inl hm
    |true=>
     rw[ay]at hm;rcases ee.1 hm with e | hm;·cases e
     ·exact .inl hm
  |a aH ae hw aj ah aB aC t=>
   refine fin aH aC aB.grow.1 t (by simp) (λh cv=>nJ _ cv) λi c l T hm=>?_;rcases ee.1 hm with e | hm;·cases e;exact .inr (by rw[aB.1];omega)
   ·exact .inl hm
  |e aH ae hw ap aC t=>exact fin aH aC ap.1 t (by simp) (λ_ h=>h) λ_ _ _ _ h=>.inl h
  |skip aH ae hw aC t=>exact fin aH aC (cc _) t (by cases Nat.beq k 2<;>rfl) (λ_ h=>h) λ_ _ _ _ h=>.inl h
end
section
variable{ops:List Oper}
def alJ{i k:Nat}{o:Oper}(aH:ops[i]?=some o)(h:F9 o k=true):∀ e,mL ops i e->k.testBit e=true:=by rintro e⟨o',nt,rl,ri,ag,rfl⟩;rw[aH]at rl;cases rl;have:=fx.1 h nt (by simpa using ri);rw[ag]at this;simpa using this
def LS:∀ {row:List (Nat×Nat)} {k:Nat},wv ops row k=true->∀ (a9:List (Nat×Nat)) (i c:Nat) (post:List (Nat×Nat)),row=a9++(i,c)::post -> (∃ o,ops[i]?=some o)/\k.testBit i=false/\i ∉ a9.map (·.1)/\∀ e,mL ops i e->k.testBit e=true\/e∈a9.map (·.1)
 |[],k,h,a9,i,c,post,e=>by simp at e
 |(i0,tA)::row,k,h,a9,i,c,post,e=>by
  simp only[wv,cB,ta]at h;obtain⟨aa,ab⟩:=h;split at ab
  ·rename_i o aH;rw[cB]at ab;cases a9 with
   |nil=>simp only[iq,xz,G1]at e;obtain⟨⟨rfl,rfl⟩,rfl⟩:=e;exact⟨⟨o,aH⟩,aa,by simp,λe he=>.inl (alJ aH ab.1 e he)⟩
   |cons p a9=>
    simp only[mU,xz]at e;obtain⟨aG,a7⟩:=e;obtain⟨a8,ba,bP,fr⟩:=LS ab.2 a9 i c post a7;have ag:∀ x,(k ||| 2^i0).testBit x=(k.testBit x||decide (x=i0)):=λx=>by rw[JK,JJ];congr 1;exact decide_eq_decide.2 eq_comm
    rw[ag,sq]at ba;refine⟨a8,ba.1,?_,λe he=>?_⟩;·rw[<-aG];simp only[cb,ee,not_or];exact⟨by simpa using ba.2,bP⟩
    ·rcases fr e he with h | h
     ·rw[ag,kQ]at h;rcases h with h | h
      ·exact .inl h
      ·exact .inr (by rw[<-aG];simp at h;simp[h])
     ·exact .inr (by rw[cb];exact nJ _ h)
  ·cases ab
def Ry:∀ {row:List (Nat×Nat)} {k:Nat},wv ops row k=true->∀ i,i<ops.length->k.testBit i=true\/i∈row.map (·.1)
 |[],k,h,i,hi=>by
  simp only[wv]at h;have:=dQ h;subst this
  left
  rw[Nat.testBit_two_pow_sub_one];simpa using hi
 |(i0,tA)::row,k,h,i,hi=>by
  simp only[wv,cB,ta]at h;obtain⟨aa,ab⟩:=h;split at ab
  ·rw[cB]at ab;rcases Ry ab.2 i hi with h | h
   ·rw[JK,JJ,kQ]at h;rcases h with h | h
    ·exact .inl h
    ·have:i0=i:=by simpa using h
     exact .inr (by simp[this])
   ·exact .inr (by rw[cb];exact nJ _ h)
  ·cases ab
def alK(h:wv ops row 0=true):(row.map (·.1)).Nodup:=by
 have key:∀ {row:List (Nat×Nat)} {k:Nat},wv ops row k=true->(row.map (·.1)).Nodup:=by
  intro row
  induction row with
  |nil=>intro k _;exact yH
  |cons r row aN=>
   intro k h;obtain⟨i0,tA⟩:=r;have bd:=h;simp only[wv,cB,ta]at h;obtain⟨aa,ab⟩:=h;split at ab;·rw[cB]at ab;rw[cb,kM];refine⟨λhm=>?_,aN ab.2⟩;obtain⟨⟨x,c⟩,ad,Ib⟩:=cC.1 hm;obtain⟨a9,post,e⟩:=u9 ad;have Rz:x=i0:=Ib;subst Rz;have:=(LS bd ((x,tA)::a9) x c post (by rw[e];rfl)).2.2.1;exact this (by simp)
   ·cases ab
 exact key h
def ZQ{α β:Type}:∀ {l:List (α×β)},(l.map (·.1)).Nodup->∀ {k:α} {a b:β},(k,a)∈l->(k,b)∈l->a=b
 |[],_,k,a,b,h,_=>by cases h
 |(Hk,c)::l,aB,k,a,b,h,bd=>by
  rw[cb,kM]at aB;rcases ee.1 h with e | h
  ·cases e;rcases ee.1 bd with cW | bd
   ·cases cW;rfl
   ·exact(aB.1 (cC.2 ⟨_,bd,rfl⟩)).elim
  ·rcases ee.1 bd with cW | bd
   ·cases cW;exact(aB.1 (cC.2 ⟨_,h,rfl⟩)).elim
   ·exact ZQ aB.2 h bd
end
section
variable{X:cV}{G:GT}{pr:lU}{D0:bO}{n0:Nat}{a:Act}{w:World}
def LU{o:Oper}{al:be ao}(h:u5 ops o al=some b)(bG:∀ t,eU β (F t) (a.tmps.getD t undef))(H:∀ t∈looks ops o,∀ v,al.get t=some v->gj D (F t) v) :
  Region.wanted o (yielded ops.toArray a.tmps)=b:=by
 unfold u5 at h;split at h
 ·rename_i au;cases h;simp[Region.wanted,au]
 ·rename_i j c au;split at h
  ·cases h
  ·rename_i d ai;have im:(ops[j]?).bind (·.dst)=some d:=by rw[zX]at ai;simpa using ai
   have alL:(ops.toArray[j]?).bind (·.dst)=some d:=by simpa using im
   have aE:=FR alL a.tmps;have kt:d∈looks ops o:=N' au im;split at h
   ·rename_i q aP;cases h;have ar:=H _ kt _ aP;have ah:a.tmps.getD d undef=.bool q:=by
     have aa:=bG d;rcases ar with⟨u,e,hu⟩ | ⟨fD,cW,e⟩;·rw[e]at aa;rw[aa,hu.bool]
     ·cases cW;rw[e]at aa;exact aa
    simp[Region.wanted,au,aE,Dd ah]
   ·rename_i l aP;cases h;have ar:=H _ kt _ aP;obtain⟨u,e,hu⟩:=ar.wy (by simp);obtain⟨vs,_,rfl⟩:=hu.Q2;have aa:=bG d;rw[e]at aa;have um:yielded ops.toArray a.tmps j=none:=by
     rw[aE];cases kp:a.tmps[d]? with
     |none=>rfl| some v=>simp only[eU,pj,kp,jV]at aa;subst aa;rfl
    simp[Region.wanted,au,um]
   ·cases h
def alM{o:Oper}{al:be ao}(H:∀ t∈looks ops o,∀ v,al.get t=some v->gj D (F t) v):ji D F al o.op.operands.toList:=λx ad v ah=>by
 cases x with
 |tmp t=>exact H t (Oa (by simpa using ad)) v ah| const c=>exact(show qL D F .nil from λt v h=>by cases h).op [.const c] (.const c) (by simp) v ah| global g=>exact(show qL D F .nil from λt v h=>by cases h).op [.global g] (.global g) (by simp) v ah| func f=>exact(show qL D F .nil from λt v h=>by cases h).op [.func f] (.func f) (by simp) v ah
def alN{m m2:be fG}{al:be ao}(h:qc op=false):u3 X.P X.E G m op al=u3 X.P X.E G m2 op al:=by
 cases op with
 |load=>simp[qc]at h| slice t x lo hi mx=>cases mx<;>cases lo<;>cases hi<;>rfl
 |unOp u=>cases u<;>rfl
 |call c=>
  obtain⟨callee,args,fJ⟩:=c;cases callee<;>rfl
 |_=>rfl
def EL(X:cV)(G:GT)(pr:lU)(D0:bO)(n0:Nat)(ops:List Oper)(es:List Nat)(al:be ao)(vs:List (Nat×ao))(S:List bo)(A:List qJ)(L:Nat->Prop)(a:Act)(w:World):Prop:=
 ∃ D F C I M j rW,Rel X a w F C I M/\(∀ q e,es[q]?=some e->(L e ↔ q<j))/\j<=es.length/\S[j]?=some rW/\c8 (dM X G pr) D rW I M/\(∀ i v t,L i->(i,v)∈vs->i' ops i=some t->gj D (F t) v) /\ (∀ t v,(∀ i,L i->i' ops i≠some t)->al.get t=some v->gj D (F t) v)/\(∀ i c l T,qJ.made i c l T∈A->¬ L i->D c=none)/\D0.ext D n0
def EL.al(dr:vQ ops){L:Nat->Prop}{q:Nat}{o:Oper}(aP:ops[q]?=some o)(rk:¬ L q){vs:List (Nat×ao)}(EM:(vs.map (·.1)).Nodup){v:ao}(ah:(q,v)∈vs){al:be ao}(bp:D.le bC)(aC:vd o.dst v bC F dk)(dH:∀ i v t,L i->(i,v)∈vs->i' ops i=some t->gj D (F t) v)(alO:∀ t v,(∀ i,L i->i' ops i≠some t)->al.get t=some v->gj D (F t) v) :
  (∀ i v t,(L i\/i=q)->(i,v)∈vs->i' ops i=some t->gj bC (dk t) v)/\(∀ t v,(∀ i,(L i\/i=q)->i' ops i≠some t)->al.get t=some v->gj bC (dk t) v):=by
 have ZR:i' ops q=o.dst:=by simp[i',aP]
 constructor
 ·rintro i u t (hi | rfl) hm aj
  ·have bn:o.dst≠some t:=λe=>by obtain⟨gA,h',qf⟩:=Ge aj;exact dr.N9 i q gA o t (λcW=>rk (cW ▸ hi)) h' aP qf e
   exact aC.2 bC t u bn ((dH i u t hi hm aj).mono bp)
  ·rw[ZQ EM hm ah];rw[ZR]at aj;exact aC.1 t aj
 ·intro t u dY au;have bn:o.dst≠some t:=λe=>dY q (.inr rfl) (by rw[ZR,e]);exact aC.2 bC t u bn ((alO t u (λi hi=>dY i (.inl hi)) au).mono bp)
end
section
variable{X:cV}{G:GT}{pr:lU}{D0:bO}{n0:Nat}{a:Act}{w:World}
def RA{gV:List Nat}:∀ {es:List Nat},Ln gV es=true->∀ (p q:Nat) (x y:Nat),p<q->es[p]?=some x->es[q]?=some y->(gV.getD y 0).testBit x=true
 |[],_,p,q,x,y,_,ad,_=>by simp at ad
 |e::es,h,p,q,x,y,mN,ad,aE=>by
  simp only[Ln,cB]at h;cases q with
  |zero=>omega
  |succ q=>
   have s8:es[q]?=some y:=by simpa using aE
   cases p with
   |zero=>simp at ad;subst ad;exact fx.1 h.1 y (rc s8)| succ p=>exact RA h.2 p q x y (by omega) (by simpa using ad) s8
def alP:e∈x2 E ops ↔ e<ops.length/\Ca E ops e=2:=by
 unfold x2;rw[iX,g'];constructor
 ·rintro⟨aa,ab⟩;exact⟨aa,dQ ab⟩
 ·rintro⟨aa,ab⟩;exact⟨aa,by rw[ab];rfl⟩
def ZS{i:Nat}{o:Oper}(h:ops[i]?=some o):Ca E ops i=lB E o.op:=by unfold Ca;rw[zX,h];rfl
def gj.same{x:dA}{u v:ao}(h:gj D x u)(ar:Ev u v=true):gj D x v:=by
 rcases h with⟨y,rfl,h⟩ | ⟨q,rfl,rfl⟩
 ·exact .val (ZP ar h)
 ·have:v=.b q:=by
   cases v<;>simp only[Ev,k7]at ar
   rw[eq_of_beq ar]
  exact .inr ⟨q,this,rfl⟩
def alQ(aM:cU X.P X.E)(kn:∀ d,d<X.n->X.gx.contains d=true)(mP:H7 (dM X G pr) call){id:Nat}{Ic:Array Oper}(ij:X.P.follows .mixedOrders=true)(aB:xj X.n Ic=true)
  {al g1:be ao} {m gI:bo} (h:QQ (dM X G pr) call Ic.toList al m=some (g1,gI)) (q5:∀ a w,lD X G pr D0 n0 g1 gI a w->Q .normal a w) (ar:lD X G pr D0 n0 al m a w) :
  (Code.region id Ic true).wpIn (g3 X) 0 X.P Q a w:=by
 refine wpIn_region_any ij ?_;generalize vP:Ic.toList=ops at h;have alR:Ic=ops.toArray:=by apply gS;simpa using vP
 subst alR;have hj:∀ o∈ops,∀ d,o.dst=some d->d<X.n:=by simpa using JB aB
 unfold QQ at h;obtain⟨xN,h⟩:=fU h;unfold YS at xN;simp only[cB]at xN;obtain⟨alS,mz,ZT,pJ⟩:=xN;have dr:vQ ops:=UZ alS;have ZU:((HO X.E ops).filter λr=>Nat.beq r.2 2).map (·.1)=x2 X.E ops:=by simpa using pJ
 clear pJ;generalize kw:x2 X.E ops=es at *;have RB:∀ e,e∈es ↔ e<ops.length/\Ca X.E ops e=2:=λe=>by rw[<-kw];exact alP
 generalize Ie:HO X.E ops=row at *;cases hB:o1 (dM X G pr) call ops row al m [] []with
 |none=>rw[hB]at h;cases h| some alT=>
 obtain⟨alU,alV,k4,nK⟩:=alT;rw[hB]at h;have bd:bW (nK.all (QP (dM X G pr) es (lh ops) k4.reverse)) (some (alU,alV)) none=some (g1,gI):=h;clear h;obtain⟨ZV,bd⟩:=fU bd;cases bd;obtain⟨vs,S,A,LV,LW,alW,-⟩:=H' aM kn hj mP row hB;rw[ef]at LW;subst LW;rw[Rb]at ZV;have ZW:∀ y∈A,QP (dM X G pr) es (lh ops) S y=true:=λy aE=>fx.1 ZV y (alW y aE);have gL:(row.map (·.1)).Nodup:=alK mz;obtain⟨auM,auN,auO,auP,auQ,auR,auS,hV,ku,mh,iL,G8,auT,alX,alY,auU⟩:=lX.split row (bi:=[]) (by rw[ef];exact LV);have alZ:(row.filter λr=>Nat.beq r.2 2).length=es.length:=by rw[<-ZU,bF]
 cases G8;rw[ef]at hV;subst hV;have EM:(vs.map (·.1)).Nodup:=by rw[ku];exact gL
 have al0:=LV.LR;have al1:∀ (a9:List (Nat×Nat)) (bi:List (Nat×Nat)),row=a9++bi->Bf ops (λi=>i∈a9.map (·.1)):=λa9 bi lZ j e ai he=>by
  obtain⟨⟨x,c⟩,ad,Ib⟩:=cC.1 ai;have Rz:x=j:=Ib;subst Rz;obtain⟨Bv,DD,aG⟩:=u9 ad;rcases(LS mz Bv x c (DD++bi) (by rw[lZ,aG];simp)).2.2.2 e he with h | h;·simp at h
  ·show e∈a9.map (·.1);rw[aG,cP];exact cE.2 (.inl h)
 let J:=EL X G pr D0 n0 ops es al vs S A
 have key:=alG (X:=X) (ops:=ops) (Q:=Q) dr.lt J ?step ?fin ops.length (Array.replicate ops.length false) a { w with drawn:=w.drawn+1 } (by simp) (by unfold todo;exact k9 (Ba _ _) (by simp)) ?cl ?start
 case cl=>
  intro j e ai;exfalso;by_cases hi:j<ops.length<;>simp[pj,hi]at ai
 case start=>
  obtain⟨D,F,C,I,M,⟨β,aW⟩,bG,ke,ad,uz⟩:=ar;obtain⟨m2,yb,RC,au⟩:=LV.head;have b4:∀ i,¬ (Array.replicate ops.length false).getD i false=true:=λi=>by
   by_cases hi:i<ops.length<;>simp[pj,hi]
  refine⟨D,F,C,I,M,0,m2,⟨β,aW.world rfl⟩,λq e _=>⟨λh=>(b4 e h).elim,λh=>by omega⟩,dz _,by rw[RC];rfl,ke.grow au,λi v t hi=>(b4 i hi).elim,λt v _ au=>bG t v au,λi c l T ry _=>?_,ad⟩;have:=(al0.2 i c l T ry).1;cases If:D c with
  |none=>rfl| some b=>have:=ke.jQ _ _ If;omega
 case fin=>
  rintro a w⟨D,F,C,I,M,j,rW,aW,wH,ai,vg,ke,Cm,Cn,iD,ad⟩;have eM:j=es.length:=by
   refine Nat.le_antisymm ai ?_;by_cases az:es.length=0;·omega
   ·have aV:es.length-1<es.length:=by omega
    have aa:=(wH (es.length-1) es[es.length-1] (da aV)).1 ((RB _).1 (bx aV)).1;omega
  have al2:rW=gI:=by rw[eM,mh,mT (by omega),iL,alZ]at vg;simpa using vg.symm
  subst al2;refine q5 a w ⟨D,F,C,I,M,aW,λt v au=>?_,ke,ad,?_⟩
  ·rcases alY t v au with⟨i,aa,ab⟩ | ⟨aa,ab⟩
   ·obtain⟨gA,h',_⟩:=Ge ab;exact Cm i v t (h5.1 h').1 aa ab
   ·refine Cn t v (λi hi=>?_) ab;rcases Ry mz i hi with ak | ak
    ·simp at ak
    ·exact aa i ak
  ·obtain⟨bC,dk,C',I',M',_,_,_,_,uz⟩:=ar;exact k9 uz alX
 case step=>
  rintro L a w q o⟨D,F,C,I,M,j,rW,⟨β,aW⟩,wH,ai,vg,ke,Cm,Cn,iD,ad⟩d' auV aP rk LX;have ff:q<ops.length:=(h5.1 aP).1;have ux:=hj o (rc aP);obtain⟨⟨fD,k⟩,al3,RD⟩:=cC.1 ((Ry mz q ff).resolve_left (by simp));have al4:fD=q:=RD;subst al4;obtain⟨a9,post,dK⟩:=u9 al3;obtain⟨-,-,ZX,al5⟩:=LS mz a9 fD k post dK;have al6:∀ e,mL ops fD e->e∈a9.map (·.1):=λe he=>(al5 e he).resolve_left (by simp);have LY:=al1 a9 ((fD,k)::post) dK;have ZY:=LV;rw[dK]at ZY;obtain⟨wE,ya,fA,c5,vf,yb,wF,aG,a7,cr,ea,ls,lY,Aa,Ia,wG⟩:=lX.split a9 ZY;have auW:=ls.LR;have H:∀ t∈looks ops o,∀ v,fA.get t=some v->gj D (F t) v:=λt av v ah=>by
   rcases Ia t v ah with⟨i,aa,ab⟩ | ⟨aa,ab⟩
   ·obtain⟨gA,h',qf⟩:=Ge ab;have ZZ:i∈a9.map (·.1):=by rw[<-a7];exact cC.2 ⟨_,aa,rfl⟩
    have bn:i≠fD:=λe=>ZX (e ▸ ZZ);rcases dr.ord i fD gA o t bn h' aP qf av with ag | ag;·exact Cm i v t (ag.mem d' LX) (by rw[aG];exact cE.2 (.inl aa)) ab
    ·exact(ZX (ag.mem LY λe he=>LY i e ZZ he)).elim
   ·refine Cn t v (λi hi j4=>?_) ab;obtain⟨gA,h',qf⟩:=Ge j4;have bn:i≠fD:=λe=>rk (e ▸ hi);rcases dr.ord i fD gA o t bn h' aP qf av with ag | ag
    ·exact aa i (ag.mem LY al6) j4
    ·exact rk (ag.mem d' λe he=>d' i e hi he)
  have sM:ji D F fA o.op.operands.toList:=alM H;have eT:Eu es (lh ops) fD<=j:=filter_le λp e aC ag=>by exact(wH p e aC).1 ((y1 ag).mem d' LX)
  have gw:j<=qI es (lh ops) fD:=le_filter ai λp e aC Ig=>by
   cases ag:((lh ops).getD e 0).testBit fD with
   |false=>rfl| true=>have Co:L e:=(wH p e Ig).2 aC;exact(rk ((y1 ag).mem d' λd aj=>d' e d Co aj)).elim
  have Z0:lB X.E o.op≠2->∀ p e,es[p]?=some e->((L e\/e=fD) ↔ p<j):=λae p e aC=>by
   have bn:e≠fD:=λhe=>ae (by
    have:=((RB e).1 (rc aC)).2;rw[he,ZS aP]at this;exact this)
   exact⟨λcv=>(wH p e aC).1 (cv.resolve_right bn),λcv=>.inl ((wH p e aC).2 cv)⟩
  have RE:lB X.E o.op=2->es[j]?=some fD/\j+1<=es.length/\∀ p e,es[p]?=some e->((L e\/e=fD) ↔ p<j+1):=λae=>by
   have RD:fD∈es:=(RB fD).2 ⟨ff,by rw[ZS aP];exact ae⟩;obtain⟨yc,gN⟩:=KW RD;have auX:=(h5.1 gN).1;have aa:¬ yc<j:=λcv=>rk ((wH yc fD gN).2 cv);have ab:¬ j<yc:=λcv=>by
    have eM:j<es.length:=by omega
    have RF:=RA ZT j yc es[j] fD cv (da eM) gN;have:=(wH j es[j] (da eM)).1 ((y1 RF).mem d' LX);omega
   have ak:yc=j:=by omega
   subst ak;refine⟨gN,by omega,λp e aC=>⟨λcv=>?_,λcv=>?_⟩⟩
   ·rcases cv with cv | rfl
    ·have:=(wH p e aC).1 cv;omega
    ·refine F4 λaB=>?_;have RF:=RA ZT yc p e e (by omega) gN aC;exact rk ((y1 RF).mem d' LX)
   ·by_cases p8:p<yc
    ·exact .inl ((wH p e aC).2 p8)
    ·have:p=yc:=by omega
     subst this;rw[gN]at aC;exact .inr (o4 aC).symm
  have plain:∀ {v:ao} {dk:Fr} {C':dB} {bM:Act} {w':World},(fD,v)∈vs->lB X.E o.op≠2->(∀ l T c,qJ.made fD c l T ∉ A\/True)->Rel X bM w' dk C' I M->vd o.dst v D F dk->J (λj=>L j\/j=fD) bM w':=fun {v dk C' bM w'} ah ae _ rn aC=>by obtain⟨f1,f2⟩:=EL.al dr aP rk EM ah (bO.le_refl D) aC Cm Cn;exact⟨D,dk,C',I,M,j,rW,rn,Z0 ae,ai,vg,ke,f1,f2,λi c l T hm dY=>iD i c l T hm λhi=>dY (.inl hi),ad⟩
  have Ih:∀ {v:ao} {bi:List (Nat×ao)},ya=(fD,v)::bi->(fD,v)∈vs:=fun {v bi} he=>by rw[aG,he];exact cE.2 (.inr (by simp))
  have al7:n0<=c5.n:=by obtain⟨bC,dk,C',I',M',_,_,_,_,uz⟩:=ar;exact k9 uz Aa
  have Z1:∀ {k:Nat},k=2->row=a9++(fD,k)::post->lB X.E o.op=2->vf.length=j:=fun {k} eN al8 ae=>by
   obtain⟨RG,eM,_⟩:=RE ae;have al9:es=(a9.filter λr=>Nat.beq r.2 2).map (·.1)++fD::((post.filter λr=>Nat.beq r.2 2).map (·.1)):=by rw[<-ZU,al8,BY,cP,ox];subst eN;simp
   have bI:es.Nodup:=by rw[<-kw];exact yX.sublist zf
   have aa:es[vf.length]?=some fD:=by rw[al9,mT (by rw[bF,ea];exact cc _),bF,ea,pI];rfl
   have xw:=(h5.1 aa).1;exact(List.getElem?_inj xw bI).1 (by rw[aa,RG])
  cases ls with
  | @q i o' bi m5 jh v c6 s6 RH RI mA n9 aH ae Cp ah aC t=>
   have m6:o'=o:=o4 (aH.symm.trans aP);subst m6;have hw:=LU Cp aW.al H;refine⟨λ_=>?_,λaA=>by rw[hw]at aA;cases aA⟩;obtain⟨u,hu,ama⟩:∃ u,u3 X.P X.E G rW.t o'.op fA=some u/\∀ x,gj D x u->gj D x v:=by
    cases ay:qc o'.op with
    |false=>exact⟨v,by rw[alN ay (m2:=c5.t)];exact ah,λ_ h=>h⟩
    |true=>
     have e6:qJ.load fD o' fA v∈A:=lY _ (by rw[ay];simp);have aa:=ZW _ e6;have ab:=ZO (show Ew S (Eu es (lh ops) fD) (qI es (lh ops) fD) (QN (dM X G pr) o' fA v)=true from aa) eT gw vg;unfold QN at ab;split at ab;·rename_i u hu;exact⟨u,hu,λx ad=>ad.same ab⟩
     ·cases ab
   refine sZ (λbM w'=>?_) (Dc aM ux ⟨β,aW⟩ (ZK (K:=λdk C' I' M'=>I'=I/\M'=M/\vd o'.dst v D F dk) aM ux ae hu sM ke λx ad=>⟨rfl,rfl,.put F (ama x ad)⟩));rintro⟨dk,C',I',M',eY,rfl,rfl,He⟩;exact plain (Ih rfl) (by rw[ae];decide) (λ_ _ _=>.inr trivial) eY He
  | @a i o' d bi m5 jh m' l T c mk c6 s6 RH RI mA n9 aH ae Cp aj ah amb aC t=>
   have m6:o'=o:=o4 (aH.symm.trans aP);subst m6;have hw:=LU Cp aW.al H;refine⟨λ_=>?_,λaA=>by rw[hw]at aA;cases aA⟩;have e6:qJ.made fD c5.n l T∈A:=lY _ (by simp);have aa:=ZW _ e6;have ab:=ZO (show Ew S (Eu es (lh ops) fD) (qI es (lh ops) fD) (QO c5.n l T)=true from aa) eT gw vg;unfold QO at ab;rw[cB]at ab;obtain⟨EN,ab⟩:=ab;have amc:c5.n<rW.n:=bJ EN;split at ab
   ·rename_i cs l' fH p7;simp only[cB]at ab;obtain⟨bs,z4,ab⟩:=ab;have FQ:=dQ bs;subst FQ;have ZD:=dQ z4;subst ZD;split at ab
    ·rename_i dL ou;obtain⟨Z2,gz,gJ,qx⟩:=be.Ey cs l.length 0 _ _ ou;have v3:Z2=dL:=o4 qx;subst v3;have If:D c5.n=none:=iD fD c5.n l l' e6 rk;refine sZ (λbM w'=>?_) (Dc aM ux ⟨β,aW⟩ (Zo (K:=λdk C' I' M'=>∃ b us u,I'=I/\M'=⟨b,.cells us.toArray l' (0,0)⟩::M/\I b=none/\(∀ x∈M,x.num≠b)/\bN D l us/\(∀ i,X.E l'=some i->us.length=c*i.size)/\c<=maxLen /\ (∀ (bC:bO) id,bC id=some ⟨b,0,c⟩->aT bC (mk id) u)/\z3 o'.dst u F dk) aM kn ux ah (by rw[aj];rfl) sM λb us u dk C' a8 ba bP fr lk KL RJ=>⟨b,us,u,rfl,rfl,a8,ba,bP,fr,lk,KL,RJ⟩));rintro⟨dk,C',I',M',eY,b,us,u,rfl,rfl,a8,ba,bP,fr,lk,KL,RJ⟩;have bp:D.le (D.set c5.n ⟨b,0,c⟩):=bO.z2 _ If;have Cq:vd o'.dst (mk c5.n) (D.set c5.n ⟨b,0,c⟩) F dk:=RJ.v (KL _ _ (bO.pS _ _ _));obtain⟨f1,f2⟩:=EL.al dr aP rk EM (Ih rfl) bp Cq Cm Cn;have rA:=EK ab bP;have gW:∀ id,id≠c5.n->(D.set c5.n ⟨b,0,c⟩) id=D id:=λid lW=>by unfold bO.set;rw[bU lW]
     have H6:∀ id e iI,rW.t.get id=some e->D id=some iI->iI.b≠b:=λid e iI hi jq Ck=>by obtain⟨x,wD,Ab⟩:=ke.aq hi jq;exact ba x wD (Ab.trans Ck)
     refine⟨D.set c5.n ⟨b,0,c⟩,dk,C',I',_,j,rW,eY,Z0 (by rw[ae];decide),ai,vg,?_,f1,f2,?_,λi hi=>?_⟩
     ·refine⟨λid e iI hi jq=>?_,λid iR e cW b1 b0 hi cX aa ab Ck=>?_,λid iI jq=>?_,ke.qK⟩
      ·by_cases lW:id=c5.n
       ·subst lW;rw[bO.pS]at jq;cases jq;rw[p7]at hi;cases hi;refine .cells us.toArray rfl (by simp) (by simp[bP.len]) (λi v hi ah=>?_) (λi hi=>by simpa using fr i hi) lk;have jZ:Z2[i]?=some v:=by have:=gJ i hi;rw[db,ah]at this;exact this.symm
        obtain⟨x,wD,Ab⟩:=rA.get jZ;exact⟨x,by simpa using wD,Ab.mono bp⟩
       ·rw[gW id lW]at jq;exact(ke.iQ id e iI hi jq).mono bp λx ad _=>nJ _ ad
      ·by_cases lW:id=c5.n
       ·by_cases Ii:iR=c5.n
        ·rw[lW,Ii]
        ·rw[gW iR Ii]at ab;rw[lW,bO.pS]at aa;cases aa;exact(H6 iR cW b0 cX ab Ck.symm).elim
       ·rw[gW id lW]at aa;by_cases Ii:iR=c5.n
        ·rw[Ii,bO.pS]at ab;cases ab;exact(H6 id e b1 hi aa Ck).elim
        ·rw[gW iR Ii]at ab;exact ke.inj id iR e cW b1 b0 hi cX aa ab Ck
      ·by_cases lW:id=c5.n
       ·rw[lW];exact amc
       ·rw[gW id lW]at jq;exact ke.jQ _ _ jq
     ·intro i c' dL BC ry dY;have amd:c'≠c5.n:=λe=>by
       rcases wG i c' dL BC ry with h | h
       ·rcases ee.1 h with h | h
        ·cases h;exact dY (.inr rfl)
        ·have:=(t.LR.2 i c' dL BC h).1;have:=amb.1;omega
       ·omega
      rw[gW c' amd];exact iD i c' dL BC ry λhi=>dY (.inl hi)
     ·rw[gW i (by omega)];exact ad i hi
    ·cases ab
   ·cases ab
  | @e i o' bi m5 jh m' v c6 s6 RH RI mA n9 aH ae Cp H8 aC t=>
   have m6:o'=o:=o4 (aH.symm.trans aP);subst m6;have hw:=LU Cp aW.al H;refine⟨λ_=>?_,λaA=>by rw[hw]at aA;cases aA⟩;obtain⟨RG,eM,RK⟩:=RE ae;have Ij:=Z1 rfl dK ae;have RL:rW=c5:=by rw[cr,mT (by omega),Ij,pI]at vg;simpa using vg.symm
   subst RL;obtain⟨m2,ame,RM,RN⟩:=t.head;refine sZ (λbM w'=>?_) (Dc aM ux ⟨β,aW⟩ (H8.2 D F C I M (λdk C' I' M'=>∃ bC,D.ext bC rW.n/\vd o'.dst v bC F dk/\c8 (dM X G pr) bC m' I' M') sM ke λbC dk C' I' M' a8 ba bP=>⟨bC,a8,ba,bP⟩));rintro⟨dk,C',I',M',eY,bC,a8,ba,bP⟩;have bp:=ke.le a8;obtain⟨f1,f2⟩:=EL.al dr aP rk EM (Ih rfl) bp ba Cm Cn;refine⟨bC,dk,C',I',M',j+1,m2,eY,RK,eM,?_,bP.grow RN,f1,f2,λi c l T ry dY=>?_,bO.ZM ad a8 al7⟩;·rw[cr,mT (by omega),Ij,show j+1-j=0+1 by omega,FH,RM];rfl
   ·rcases wG i c l T ry with h | h
    ·have:=(t.LR.2 i c l T h).1;cases If:bC c with
     |none=>rfl| some b=>have:=bP.jQ _ _ If;omega
    ·rw[a8 c h];exact iD i c l T ry λhi=>dY (.inl hi)
  | @skip i eZ o' bi m5 jh c6 s6 RH RI mA n9 aH ae Cp aC t=>
   have m6:o'=o:=o4 (aH.symm.trans aP);subst m6;have hw:=LU Cp aW.al H;refine⟨λaA=>(by rw[hw]at aA;cases aA),λ_=>?_⟩;have rn:Rel X (a.put o'.dst undef) w (put o'.dst (.val undef) F) C I M:=⟨β,aW.put (x:=.val undef) ux rfl⟩;have Cq:vd o'.dst (.t []) D F (put o'.dst (.val undef) F):=.put F (.val .undef);by_cases eN:k=2
   ·subst eN;obtain⟨RG,eM,RK⟩:=RE ae;have Ij:=Z1 rfl dK ae;have RL:rW=c5:=by rw[cr,mT (by omega),Ij,pI]at vg;simpa using vg.symm
    subst RL;obtain⟨m2,ame,RM,RN⟩:=t.head;obtain⟨f1,f2⟩:=EL.al dr aP rk EM (Ih rfl) (bO.le_refl D) Cq Cm Cn;refine⟨D,_,C,I,M,j+1,m2,rn,RK,eM,?_,ke.grow RN,f1,f2,λi c l T ry dY=>iD i c l T ry λhi=>dY (.inl hi),ad⟩;rw[cr,mT (by omega),Ij,show j+1-j=0+1 by omega];show(rW::mA)[0+1]?=some m2;rw[FH,RM];rfl
   ·exact plain (Ih rfl) (by rw[ae];exact eN) (λ_ _ _=>.inr trivial) rn Cq
 simpa using key
end
def Cr{n:Nat}:∀ {c:Code},h2 n c=true->codeOk n c=true
 | .seq x y,h=>by simp only[h2,codeOk,cB]at h |-;exact⟨Cr h.1,Cr h.2⟩
 | .block _ c,h=>by simp only[h2,codeOk]at h |-;exact Cr h
 | .cond _ x y,h=>by simp only[h2,codeOk,cB]at h |-;exact⟨Cr h.1,Cr h.2⟩
 | .loop c,h=>by simp only[h2,codeOk]at h |-;exact Cr h
 | .region _ ops _,h=>h| .scope c,h=>rfl| .rangeFunc ..,h=>rfl| .skip,h | .exit _,h | .label _,h | .goto _,h | .ret,h | .refuse _,h=>rfl
def RO{n:Nat}:∀ {c:Code} {l:Nat} {r:Code},h2 n c=true->findLabel c l=some r->h2 n r=true
 | .seq x y,l,r,h,ay=>by
  simp only[h2,cB]at h;simp only[findLabel]at ay;split at ay;·rename_i bi af;cases ay;simp only[h2,cB];exact⟨RO h.1 af,h.2⟩
  ·exact RO h.2 ay
 | .label dL,l,r,h,ay=>by
  simp only[findLabel]at ay;split at ay;·cases ay;rfl
  ·cases ay
 | .skip,_,_,_,ay | .exit _,_,_,_,ay | .goto _,_,_,_,ay | .ret,_,_,_,ay | .refuse _,_,_,_,ay | .block _ _,_,_,_,ay | .cond _ _ _,_,_,_,ay | .loop _,_,_,_,ay | .scope _,_,_,_,ay | .region _ _ _,_,_,_,ay | .rangeFunc _ _ _ _,_,_,_,ay=>by simp[findLabel]at ay
def wI(P:Program):Prop:=∀ (g:Nat) (fn:Func) (c:Code),P.funcs[g]?=some fn->fn.body=some c->h2 fn.ntmps c=true/\(fn.name == "runtime.NumGoroutine")=false
def amf(P:Program):Bool:=P.funcs.toList.all λfn=>match fn.body with
 |some c=>h2 fn.ntmps c && !(fn.name == "runtime.NumGoroutine")
 |none=>true
def amg(h:amf P=true):wI P:=λg fn c aA ag=>by have aa:=fx.1 h fn (by rw[<-Array.mem_def];exact Array.mem_of_getElem? aA);simp only[ag,cB,ta]at aa;exact aa
def yd(Y:gH):Prop:=∀ g vs m v m',Y.pr g vs m=some (v,m')->∀ (D:bO) (I:aI) (M:List aD) (us:List Value),bN D vs us->c8 Y D m I M->Spec Y.P g us I M λr I' M'=>∃ bC,D.ext bC m.n/\aT bC v r/\c8 Y bC m' I' M'
def Ac:s'->Exit
 | .normal=>.normal| .exit id=>.exit id| .goto l=>.goto l| .ret=>.ret
def jR(Y:gH)(n B:Nat)(az:World)(dp:aI)(foot:List Nat)(ro:Option Nat):cV:=⟨Y.P,Y.E,List.range n,n,B,az,dp,foot,ro⟩
def jR.gx{Y:gH}{n B:Nat}{az:World}{dp:aI}{foot:List Nat}{ro:Option Nat}:∀ d,d<(jR Y n B az dp foot ro).n->(jR Y n B az dp foot ro).gx.contains d=true:=λd aj=>by have fy:d<n:=aj;show(List.range n).contains d=true;simpa using fy
def Cs(Y:gH)(f:Nat):Prop:=∀ gE n c al m ex c6 m',lV Y f gE n c al m=some (ex,c6,m')->h2 n c=true->∀ B az dp foot ro D0 n0 a w,(gE=true->ro=none)->lD (jR Y n B az dp foot ro) Y.G Y.pr D0 n0 al m a w -> c.wpIn (g3 (jR Y n B az dp foot ro)) 0 Y.P (λe a w=>e=Ac ex/\lD (jR Y n B az dp foot ro) Y.G Y.pr D0 n0 c6 m' a w) a w
def RP{α:Type}:∀ (n k:Nat),(be.bare n:be α).get k=none
 |0,k=>rfl
 |n+1,k=>by
  rw[be.bare,be.HR];cases Nat.beq k 0 with
  |true=>rfl
  |false=>
   cases Nat.beq (k%2) 1 with
   |true=>exact RP n _| false=>exact RP n _
section
variable{X:cV}{G:GT}{pr:lU}{D:bO}{m:bo}{F:Fr}{al:be ao}{C:dB}{I:aI}{M:List aD}
def RQ(bG:qL D F al)(hm:c8 (dM X G pr) D m I M):∀ {a0:List ResultVar} {vs:List ao} {K:List Value->Prop},zS (dM X G pr) al m.t a0=some vs->(∀ us,bN D vs us->K us)->pu X F C I M a0 K
 |[],vs,K,h,ae=>by simp only[zS]at h;cases h;exact ae [] .nil
 | .tmp t::l,vs,K,h,ae=>by
  simp only[zS]at h;split at h;·rename_i v s6 aa ab;cases h;obtain⟨u,aG,a8⟩:=(show gj D (di F (.tmp t)) v from bG t v aa).dw;unfold pu;rw[aG];exact RQ bG hm ab λus fE=>ae _ (.cons a8 fE)
  ·cases h
 | .cell t ty::l,vs,K,h,ae=>by
  simp only[zS]at h;split at h
  ·rename_i x i s6 aa ab ak;split at h
   ·rename_i v ah;cases h;have x4:∀ q,x≠.b q:=λq e=>by subst e;cases ah
    obtain⟨u,aG,a8⟩:=gj.wy (bG t x aa:gj D (di F (.tmp t)) x) x4;obtain⟨aS,dL,EO,rfl,bl,ay,aC⟩:=wz hm a8 ah;have lO:X.E ty=some i:=ab;have ej:di F (.tmp t)=.val (.pointer (some aS)):=aG;unfold pu;rw[ej,lO];exact⟨EO,bl,RQ bG hm ak λus fE=>ae _ (.cons (Lz aC ay) fE)⟩
   ·cases h
  ·cases h
end
def Z3(aM:cU Y.P Y.E)(bG:wI Y.P)(lZ:yd Y)(ap:Cs Y f){args:List ao}{m:bo}{v:ao}{fn:Func}{c:Code}(aA:Y.P.funcs[g]?=some fn)(ag:fn.body=some c)(bp:args.length<=fn.ntmps){al c6:be ao}(xd:∀ t w,al.get t=some w->args[t]?=some w){c5:bo}(hex:ex=.normal\/ex=.ret)(h:lV Y f true fn.ntmps c al m=some (ex,c6,c5)){vs:List ao}(af:zS Y c6 c5.t fn.results.toList=some vs)
  (ah:v=YT vs) (hu:bN D args us) (hm:c8 Y D m I M):vD Y.P g us I M λr I' M'=>∃ bC,D.ext bC m.n/\aT bC v r/\c8 Y bC c5 I' M':=by
 obtain⟨bu,h9⟩:=bG g fn c aA ag;refine N1 (List.range fn.ntmps) aM aA ag h9 ?_ λB az a w aW=>?_
 ·rw[cB];exact⟨Cr bu,BX (by rw[hu.len];exact bp)⟩
 ·have amh:qL D (xk us) al:=λt w hw=>by obtain⟨x,aa,ab⟩:=hu.get (xd t w hw);refine .inl ⟨x,?_,ab⟩;simp only[xk,aa]
  have eu:lD (jR Y fn.ntmps B az I (M.map (·.num)) none) Y.G Y.pr D m.n al m a w:=⟨D,_,_,I,M,aW,amh,hm,bO.o6,cc _⟩;refine wpIn_mono (ap _ _ _ _ _ _ _ _ h bu B az I (M.map (·.num)) none D m.n a w (λ_=>rfl) eu) ?_;rintro e bM w'⟨rfl,bC,dk,C',I',M',rn,oj,sf,ad,aB⟩;have Hf:∀ Cj,Cj=.normal\/Cj=.ret->uo (jR Y fn.ntmps B az I (M.map (·.num)) none) fn.results.toList (λr I' M'=>∃ bC,D.ext bC m.n/\aT bC v r/\c8 Y bC c5 I' M') Cj dk C' I' M':=λCj he=>by
   have EP:=RQ (X:=jR Y fn.ntmps B az I (M.map (·.num)) none) (G:=Y.G) (pr:=Y.pr) (C:=C') oj sf af (K:=λvs=>match vs with
    |[u']=>vL (M.map (·.num)) I' M' ((λr I' M'=>∃ bC,D.ext bC m.n/\aT bC v r/\c8 Y bC c5 I' M') u')
    |vs=>vL (M.map (·.num)) I' M' ((λr I' M'=>∃ bC,D.ext bC m.n/\aT bC v r/\c8 Y bC c5 I' M') (.tuple vs.toArray))) λEO fE=>by
     clear af
     match vs,EO,fE,ah with
     |[],EO,fE,ah=>rw[fE.nI];refine⟨I',M',.refl,bC,ad,?_,sf⟩;rw[ah];exact .Ly .nil| [v1],EO,fE,ah=>obtain⟨x,xs,aa,ab,rfl⟩:=fE.kE;rw[ab.nI];refine⟨I',M',.refl,bC,ad,?_,sf⟩;rw[ah];exact aa
     |v1::v2::vs,EO,fE,ah=>obtain⟨x,xs,aa,ab,rfl⟩:=fE.kE;obtain⟨y,ys,ak,aJ,rfl⟩:=ab.kE;refine⟨I',M',.refl,bC,ad,?_,sf⟩;rw[ah];exact .Ly fE
   rcases he with rfl | rfl<;>exact EP
  rcases hex with rfl | rfl;·exact⟨dk,C',I',M',rn,Hf _ (.inl rfl)⟩
  ·exact⟨dk,C',I',M',rn,Hf _ (.inr rfl)⟩
def Spec.qN{args:List Value}{p q:Value->aI->List aD->Prop}(h:Spec P f args I M p)(ae:∀ v I' M',p v I' M'->q v I' M'):Spec P f args I M q:=by
 rcases h with⟨aa,ab⟩ | h
 ·refine .inl ⟨aa,λw hw=>?_⟩;refine(ab w hw).mono ?_;rintro e w'⟨v,I',M',aG,a7,cr,ea⟩;exact⟨v,I',M',aG,ae _ _ _ a7,cr,ea⟩
 ·refine .inr λw hw=>?_;obtain⟨v,w',I',M',aG,a7,cr,ea⟩:=h w hw;exact⟨v,w',I',M',aG,ae _ _ _ a7,cr,ea⟩
section
variable{Y:gH}{D:bO}{m m':bo}{I:aI}{M:List aD}
def Z4(aM:cU Y.P Y.E)(bG:wI Y.P)(lZ:yd Y)(ap:Cs Y f){args:List ao}{v:ao}(h:Lp Y (lV Y f) g args m=some (v,m'))(hu:bN D args us)(hm:c8 Y D m I M) :
  vD Y.P g us I M λr I' M'=>∃ bC,D.ext bC m.n/\aT bC v r/\c8 Y bC m' I' M':=by
 unfold Lp at h;obtain⟨fn,aA,aa⟩:=cp h;obtain⟨c,ag,ab⟩:=cp aa;obtain⟨bp,ak⟩:=fU ab;obtain⟨al,a8,ba⟩:=be.x3 args (be.bare 12) 0;rw[a8]at ak;have xd:∀ t w,al.get t=some w->args[t]?=some w:=λt w hw=>by
  rcases ba t w hw with⟨_,h⟩ | ⟨_,h⟩;·simpa using h
  ·rw[RP]at h;cases h
 unfold YU at ak;split at ak
 ·rename_i c6 c5 ad;unfold Lo at ak;obtain⟨vs,af,aJ⟩:=cp ak;cases aJ;exact Z3 aM bG lZ ap aA ag (bJ bp) xd (.inl rfl) ad af rfl hu hm
 ·rename_i c6 c5 ad;unfold Lo at ak;obtain⟨vs,af,aJ⟩:=cp ak;cases aJ;exact Z3 aM bG lZ ap aA ag (bJ bp) xd (.inr rfl) ad af rfl hu hm
 ·cases ak
def Z5(aM:cU Y.P Y.E)(bG:wI Y.P)(lZ:yd Y)(ap:Cs Y f){args:List ao}{v:ao}(h:zT Y (lV Y f) g args m=some (v,m'))(hu:bN D args us)(hm:c8 Y D m I M) :
  Spec Y.P g us I M λr I' M'=>∃ bC,D.ext bC m.n/\aT bC v r/\c8 Y bC m' I' M':=by
 unfold zT at h;cases aC:Y.pr g args m with
 |none=>rw[aC]at h;exact .inl (Z4 aM bG lZ ap h hu hm)| some p=>rw[aC]at h;have bd:some p=some (v,m'):=h;cases bd;exact lZ g args m v m' aC D I M us hu hm
def cH.kept{a:Act}{W:World}{C:dB}{M0:List aD}(h:cH X β a w F C I' M')(aa:X.az=W)(ab:X.B=W.heap.size)(ak:X.dp=dp)(aJ:X.foot=M0.map (·.num)):Kept dp M0 W I' M' w where
 le:=by rw[<-ak];exact h.h8
 uh b o ag:=by
  rcases h.hD b o ag with bB | bB;·exact .inl (by rw[<-ak];exact bB)
  ·exact .inr (by rw[<-ab];exact bB)
 vC x ad:=by
  rcases h.own x ad with bB | bB;·rw[aJ]at bB;obtain⟨y,aE,e⟩:=cC.1 bB;exact .inl ⟨y,aE,e⟩
  ·exact .inr (by rw[<-ab];exact bB)
 dE b ag aB:=by rw[<-aa];refine h.dE b (by rw[ab];exact ag) λhm=>?_;rw[aJ]at hm;obtain⟨y,aE,e⟩:=cC.1 hm;exact aB y aE e
 out:=by rw[<-aa];exact h.out
 sz:=by rw[<-ab];exact h.sz
def Z6{R:Type}:∀ {ps:List Nat} {args:List ao} {m5:be ao} {K:be ao->Option R} {r:R} {us:List Value} {tmps:Array Value},Ex ps args m5 K=some r->bN D args us->(∀ t∈ps,t<tmps.size)->(∀ t v,m5.get t=some v->aT D v (tmps.getD t undef)) -> ∃ fA,K fA=some r/\us.length=ps.length/\((ps.zip us).foldl (λ(tmps:Array Value) (p:Nat×Value)=>tmps.setIfInBounds p.1 p.2) tmps).size=tmps.size /\ ∀ t v,fA.get t=some v->aT D v (((ps.zip us).foldl (λ(tmps:Array Value) (p:Nat×Value)=>tmps.setIfInBounds p.1 p.2) tmps).getD t undef)
 |[],[],m5,K,r,us,tmps,h,hu,aC,az=>by have:=hu.nI;subst this;exact⟨m5,h,rfl,rfl,az⟩
 |[],_::_,m5,K,r,us,tmps,h,hu,aC,az=>by simp[Ex]at h
 |_::_,[],m5,K,r,us,tmps,h,hu,aC,az=>by simp[Ex]at h
 |t0::ps,wJ::args,m5,K,r,us,tmps,h,hu,aC,az=>by
  obtain⟨x,xs,a8,ba,rfl⟩:=hu.kE;simp only[Ex]at h;obtain⟨fA,aa,ab⟩:=be.o2 (some wJ) m5 t0;rw[aa]at h;have aV:=aC t0 (by simp);obtain⟨vh,ak,aJ,bB,b5⟩:=Z6 (tmps:=tmps.setIfInBounds t0 x) h ba (λt av=>by simpa using aC t (by simp[av])) λt v av=>by
   rw[pj,C3];rcases ab t v av with⟨rfl,e⟩ | ⟨bn,au⟩;·have:=(o4 e);subst this;simp only[p2,aV];exact a8
   ·rw[bU (po bn),<-pj];exact az t v au
  exact⟨vh,ak,by simp[aJ],by simpa using bB,b5⟩
def lC.LZ{a:Loc}{n:Nat}{al:be ao}(h:lC D E M a (.loop b n al ps fe body)):∃ L,(⟨a.b,.loop L⟩:aD)∈M/\Y3 D b n al ps fe body L:=by
 cases h with
 |loop L aa ab=>exact⟨L,aa,ab⟩
def lC.ami{a:Loc}{c:Code}{n:Nat}{al:be ao}(h:lC D E M a (.done c n al ps fe body)):∃ L,(⟨a.b,.loop L⟩:aD)∈M/\L.state=.done/\L.pending=some c:=by
 cases h with
 |done L aa ab ak=>exact⟨L,aa,ab,ak⟩
def c8.swap(h:c8 Y D m I M){l:Nat}{aG:fG}{o o':Obj}{Mr:List aD}(au:m.t.get l=some dF)(a2:D l=some g9)(a':M.Perm (⟨g9.b,o⟩::Mr))(av:∀ id e,bm.get id=some e->(id=l/\some aG=some e)\/(id≠l/\m.t.get id=some e))
  (he:lC D Y.E (⟨g9.b,o'⟩::Mr) g9 aG):c8 Y D ⟨bm,m.n⟩ I (⟨g9.b,o'⟩::Mr):=by
 refine h.step (λid e hi=>(av id e hi).imp (λq=>⟨q.1,o4 q.2⟩) λq=>q) a2 (bO.le_refl D) (λ_ _=>rfl) h.jQ (λ_ _ h=>h) (λid e bM bn hi oV x ad aB=>?_) he λid e bM bn hi oV ag=>bn (h.inj _ _ _ _ _ _ hi au oV a2 ag);rcases ee.1 (a'.mem_iff.1 ad)with rfl | ad
 ·exact(bn (h.inj _ _ _ _ _ _ hi au oV a2 aB.symm)).elim
 ·exact nJ _ ad
end
section
variable{Y:gH}{D:bO}{m m':bo}{I:aI}{M:List aD}
def amj(ap:Cs Y f){l:Nat}{args:List ao}{v:ao}(h:QU (lV Y f) l args m=some (v,m'))(ay:D l=some g9)(hu:bN D args us)(hm:c8 Y D m I M) :
  Dn Y.P g9.b us I M λr I' M'=>∃ bC,D.ext bC m.n/\aT bC v r/\c8 Y bC m' I' M':=by
 unfold QU at h;split at h
 ·rename_i n m5 ps fe body au;obtain⟨L,a',b4⟩:=(hm.iQ _ _ _ au ay).LZ;intro W hT;have Gq:W.heap[g9.b]?=some (.loop L):=hT.m _ a';have eu:L.state=.ready:=b4.aY;have vP:∀ t∈ps,t<L.tmps.size:=λt av=>by rw[b4.sz];exact b4.op t (by rw[b4.ps];exact av)
  obtain⟨fA,aa,c2,dj,Z7⟩:=Z6 (tmps:=L.tmps) h hu vP b4.al;have DU:L.params.size=ps.length:=by rw[<-b4.ps];simp
  refine⟨_,_,_,_,run_yield Gq (by rw[DU];simpa using c2),?_⟩;have rp:(L.params.zip us.toArray).foldl (λtmps (x:Nat×Value)=>match x with | (t,a)=>tmps.setIfInBounds t a) L.tmps=(ps.zip us).foldl (λ(tmps:Array Value) (p:Nat×Value)=>tmps.setIfInBounds p.1 p.2) L.tmps:=by rw[<-NK,<-b4.ps];simp
  rw[rp];generalize bs:(ps.zip us).foldl (λ(tmps:Array Value) (p:Nat×Value)=>tmps.setIfInBounds p.1 p.2) L.tmps=T at Z7 dj;rw[b4.fe,b4.body];have sN:h2 n fe=true:=by rw[<-b4.fe];exact b4.xG
  have Ru:h2 n body=true:=by rw[<-b4.body];exact b4.nx
  refine roundIn_of_wpIn (F:=Fence.wide) (n:=0) trivial ?_;let vV:cV:=jR Y n W.heap.size W I (M.map (·.num)) (some g9.b)
  have F1:cH vV (λ_=>0) { tmps:=T,defers:=[] } W (λt=>.val (T.getD t undef)) (λ_=>none) I M:={
   size:=dj.trans b4.sz
   defers:=⟨[],rfl,yH,λr af=>by cases af⟩
   holds:=hT
   al:=λt=>rfl
   cf:=λs cs ar=>by cases ar
   inj:=λs b3 aa=>by simp at aa
   h8:=λb o ag=>ag
   hD:=λb o ag=>.inl ag
   own:=λx ad=>.inl (cC.2 ⟨x,ad,rfl⟩)
   dE:=λb ag aA=>rfl
   out:=.refl _
   sz:=cc _
   fm:=λx ad=>by
    obtain⟨y,aE,rfl⟩:=cC.1 ad;exact(lJ.1 (hT.m y aE)).1 }
  unfold YW at aa;split at aa
  ·rename_i vh m2 amk;have fo:lD vV Y.G Y.pr D m.n fA m { tmps:=T,defers:=[] } W:=⟨D,_,_,I,M,⟨_,F1⟩,λt v ah=>.val (Z7 t v ah),hm,bO.o6,cc _⟩;refine wpIn_mono (ap _ _ _ _ _ _ _ _ amk sN _ _ _ _ _ D m.n _ _ (λe=>by cases e) fo) ?_;rintro e cL hV⟨rfl,RR,Z8,Z9,dv,df,⟨Z',lp⟩,RS,ml,Ab,n7⟩;have v3:RR l=some g9:=by rw[Ab l (hm.jQ _ _ ay)];exact ay
   have ab:QS (lV Y f) l n body (m2.t.get l) vh m2=some (v,m'):=aa;unfold QS at ab;split at ab
   ·rename_i fT aml amm amn QT kV;obtain⟨hL,aaa,nL⟩:=(ml.iQ _ _ _ kV v3).LZ;obtain⟨a9,post,dK⟩:=u9 aaa;have mz:df.Perm (⟨g9.b,.loop hL⟩::(a9++post)):=by rw[dK];exact mv
    have aab:hV.heap[g9.b]?=some (.loop hL):=lp.holds.m _ aaa;have amo:=(lJ.1 aab).1;refine⟨_,run_beginRound aab nL.aY,?_⟩;obtain⟨t3,ak,aJ⟩:=be.o2 (some (fG.loop true fT aml amm amn QT)) m2.t l;rw[ak]at ab;have v':cH vV Z' cL (hV.putObj g9.b (.loop { hL with state:=.busy })) Z8 Z9 dv (⟨g9.b,.loop { hL with state:=.busy }⟩::(a9++post)):=
     (lp.hS (.perm mz .refl)).swap (by simp) (Dg amo) (λb ag=>nh ag) (Jw _ _ _)
    have rX:c8 Y RR ⟨t3,m2.n⟩ dv (⟨g9.b,.loop { hL with state:=.busy }⟩::(a9++post)):=ml.swap kV v3 mz aJ (.loop { hL with state:=.busy } (by simp) ⟨rfl,nL.qg,nL.sz,nL.al,nL.ps,nL.fe,nL.body,nL.xG,nL.nx,nL.op⟩);unfold YV at ab;obtain⟨⟨ex,auY,L0⟩,Hy,bB⟩:=cp ab;have y':lD vV Y.G Y.pr D m.n vh ⟨t3,m2.n⟩ cL (hV.putObj g9.b (.loop { hL with state:=.busy })):=⟨RR,Z8,Z9,dv,_,⟨Z',v'⟩,RS,rX,Ab,n7⟩;refine wpIn_mono (ap _ _ _ _ _ _ _ _ Hy Ru _ _ _ _ _ D m.n _ _ (λe=>by cases e) y') ?_;rintro e ha iL⟨rfl,aac,amp,amq,rr,rq,⟨amr,kF⟩,auZ,Ik,aad,aae⟩;have L1:aac l=some g9:=by rw[aad l (hm.jQ _ _ ay)];exact ay
    have b5:QR l (L0.t.get l) (Dq ex) L0=some (v,m'):=bB;unfold QR at b5;split at b5
    ·rename_i aaf aag aah aai aaj DL;obtain⟨RT,ye,Ad⟩:=(Ik.iQ _ _ _ DL L1).LZ;obtain⟨aak,aal,ams⟩:=u9 ye;have aam:rq.Perm (⟨g9.b,.loop RT⟩::(aak++aal)):=by rw[ams];exact mv
     have aan:iL.heap[g9.b]?=some (.loop RT):=kF.holds.m _ ye;have amt:=(lJ.1 aan).1;obtain⟨t5,dZ,fj⟩:=be.o2 (some (bq (Dq ex) (fG.loop false aaf aag aah aai aaj) λc=>fG.done c aaf aag aah aai aaj)) L0.t l;rw[dZ]at b5;cases b5;have fin:∀ jump,Dq ex=jump->∃ u' w',(Instr.endRound g9.b jump).run Y.P iL=.ok u' w'/\∃ r I' M',Ending.returned u'=.returned r/\(∃ bC,D.ext bC m.n/\aT bC (.b (Dq ex).isNone) r/\c8 Y bC ⟨t5,L0.n⟩ I' M')/\ey I' M' w'/\Kept I M W I' M' w':=by
      rintro jump ai;let L2:Loop:={ RT with state:=if jump.isNone then .ready else .done,pending:=jump }
      have L3:cH vV amr ha (iL.putObj g9.b (.loop L2)) amp amq rr (⟨g9.b,.loop L2⟩::(aak++aal)):=
       (kF.hS (.perm aam .refl)).swap (by simp) (Dg amt) (λb ag=>nh ag) (Jw _ _ _)
      refine⟨_,_,run_endRound jump aan,_,rr,_,rfl,⟨aac,aad,?_,Ik.swap DL L1 aam fj ?_⟩,L3.holds,L3.kept rfl rfl rfl rfl⟩;·rw[ai];simp[aT]
      ·rw[ai];cases jump with
       |none=>exact .loop L2 (by simp) ⟨rfl,rfl,Ad.sz,Ad.al,Ad.ps,Ad.fe,Ad.body,Ad.xG,Ad.nx,Ad.op⟩| some c=>exact .done L2 (by simp) rfl rfl
     cases ex with
     |normal=>exact fin none rfl| exit id=>exact fin _ rfl| goto t=>exact fin _ rfl| ret=>exact fin _ rfl
    ·cases b5
   ·cases ab
  ·cases aa
 ·cases h
end
section
variable{Y:gH}
def amu(aM:cU Y.P Y.E)(bG:wI Y.P)(lZ:yd Y)(ap:Cs Y f):H7 Y (Lq Y (lV Y f)):=λtO l m v m' h D I M u us nn fE hm=>by
 unfold Lq at h;split at h
 ·rename_i g cN cs;simp only[aT]at nn;obtain⟨vs,ws,aa,ab,rfl⟩:=nn;refine .inl ⟨g,_,_,rfl,?_⟩;have:=Z5 aM bG lZ ap h (aa.append (fE.append ab)) hm;simpa using this
 ·rename_i q;simp only[aT]at nn;obtain⟨g9,aa,rfl⟩:=nn;exact .inr ⟨g9.b,rfl,amj ap h aa fE hm⟩
 ·cases h
def lD.world{al:be ao}{m:bo}{a:Act}(h:lD X G pr D0 n0 al m a w):∃ D F β,(∀ t,eU β (F t) (a.tmps.getD t undef))/\qL D F al:=by obtain⟨D,F,C,I,M,⟨β,aW⟩,bG,_⟩:=h;exact⟨D,F,β,aW.al,bG⟩
def lD.eval{al:be ao}{m:bo}{a:Act}(h:lD X G pr D0 n0 al m a w)(ad:dg al x=some (.b b)):a.eval x=.bool b:=by obtain⟨D,F,β,aa,ab⟩:=h.world;obtain⟨u,aG,a8⟩:=(ab.op [x]).bE (x:=x) (by simp) ad;rw[dc aa aG,a8.bool]
def gj.ok{x:dA}{v:ao}(h:gj D x v)(ad:eU β x u):aT D v u:=by
 rcases h with⟨y,rfl,h⟩ | ⟨q,rfl,rfl⟩
 ·have:u=y:=ad;subst this;exact h
 ·have:u=.bool q:=ad;subst this;simp[aT]
def amv(aM:cU Y.P Y.E)(bG:wI Y.P)(lZ:yd Y)(ap:Cs Y f){gE:Bool}{n:Nat}{ps:Array Tmp}{al c6:be ao}{m m':bo}(h:QW Y (lV Y f) gE n (dg al x) ps.toList fe body al m=some (ex,c6,m'))(bu:h2 n (.rangeFunc x ps fe body)=true){B:Nat}{az:World}{foot:List Nat}{ro:Option Nat}{a:Act}(gp:gE=true->ro=none)(ar:lD (jR Y n B az dp foot ro) Y.G Y.pr D0 n0 al m a w) :
  (Code.rangeFunc x ps fe body).wpIn (g3 (jR Y n B az dp foot ro)) 0 Y.P (λe a w=>e=Ac ex/\lD (jR Y n B az dp foot ro) Y.G Y.pr D0 n0 c6 m' a w) a w:=by
 unfold QW at h;split at h
 ·rename_i g cap ad;have Oj:=gp rfl;subst Oj;obtain⟨D,F,C,I,M,⟨β,aW⟩,RU,hm,f',uz⟩:=ar;obtain⟨u,aG,a8⟩:=(RU.op [x]).bE (x:=x) (by simp) ad;simp only[aT]at a8;obtain⟨vs,ws,aa,ab,rfl⟩:=a8;have iH:=aa.nI;subst iH;simp only[h2,cB]at bu;obtain⟨t1,ak,aJ⟩:=H2 h;refine wpIn_rangeFunc λfn _=>?_;let gB:Loop:={ state:=.ready,pending:=none,fn:=fn,tmps:=a.tmps,params:=ps,assign:=fe,body:=body,defers:=w.heap.size }
  let l:=w.heap.size+1
  let ku:World:=(w.alloc (.deferred (some []))).alloc (.loop gB)
  have Bk:=aW.Vc.nS (.loop gB);have ay:(w.alloc (.deferred (some []))).heap.size=l:=by simp[l]
  rw[ay]at Bk;have amw:∀ q∈M,q.num≠l:=λq aP e=>by have:=aW.holds.lt aP;omega
  have aao:c8 Y (D.set m.n ⟨l,0,0⟩) ⟨t1,m.n+1⟩ I (⟨l,.loop gB⟩::M):=hm.new (a:=⟨l,0,0⟩) ak amw (.loop gB (by simp) ⟨rfl,rfl,aW.size,λt v av=>((RU t v av).ok (aW.al t)).mono (bO.z2 _ hm.fresh),rfl,rfl,rfl,bu.1,bu.2.1,λt av=>bJ (fx.1 bu.2.2 t av)⟩);unfold YZ at aJ;obtain⟨⟨v,m2⟩,mP,bB⟩:=cp aJ;have aap:=bO.z2 (D:=D) ⟨l,0,0⟩ hm.fresh;have m1:bN (D.set m.n ⟨l,0,0⟩) (.y m.n::cap) (.func (.yield l) #[] #[]::ws):=.cons (by simp only[aT];exact⟨_,bO.pS _ _ _,rfl⟩) (ab.mono aap);obtain⟨p7,A6⟩:=Z4 aM bG lZ ap mP m1 aao;have Pn:=A6 ku Bk.holds;have a7:=dc aW.al aG;refine⟨l,[w9 w.heap.size],ku,{ target:=.fn (.func g) ws.toArray,args:=#[.func (.yield l) #[] #[]] },ku,g,(.func (.yield l) #[] #[]::ws).toArray,ku,?_,?_,λ_ _=>trivial,?_,(λh=>by cases h),?_⟩;·show(Instr.enterLoop fn a.tmps ps fe body none).run Y.P w=_;exact run_enterLoop_outer fn a.tmps ps fe body
  ·show(Deferred.ofValue (a.eval x) (#[Operand.const (.func (.yield l) #[] #[])].map a.eval)).run Y.P ku=_;rw[a7];simp[Deferred.ofValue,Act.eval]
  ·simp only[invoke];rw[show #[Value.func (.yield l) #[] #[]]++ws.toArray=(.func (.yield l) #[] #[]::ws).toArray from by apply gS;simp];exact p7 _ _
  ·refine(NV (X:=jR Y n B az dp foot none) Pn _).mono ?_;rintro e mh⟨r,hW,sh,rfl,⟨Il,RV,Py,rX⟩,aaq,RW⟩;have si:=Bk.after (Mr:=[]) (by simp) aaq RW;rw[ef]at si;have y9:Il m.n=some ⟨l,0,0⟩:=by rw[RV m.n (AR _)];exact bO.pS _ _ _
   have amx:=aao.le RV;have amy:qL Il F al:=λt v av=>(RU t v av).mono (bO.le_trans aap amx);have amz:D0.ext Il n0:=λi hi=>by
    have fh:i<m.n+1:=by
     have:i<m.n:=by omega
     omega
    rw[RV i fh];show(if i=m.n then _ else D i)=D0 i;rw[bU (by omega)];exact f' i hi
   have fin:∀ (L:Loop) (t4:be fG) (j:Option Code),(⟨l,.loop L⟩:aD)∈sh->L.state≠.busy->L.pending=j->(∃ dF,m2.t.get m.n=some dF)->(∀ id e,t4.get id=some e->(id=m.n/\(none:Option fG)=some e)\/(id≠m.n/\m2.t.get id=some e))->n0<=m2.n ->
     ∃ iL,(Instr.endLoop l).run Y.P mh=.ok j iL/\lD (jR Y n B az dp foot none) Y.G Y.pr D0 n0 al ⟨t4,m2.n⟩ { a with defers:=[w9 w.heap.size]++a.defers } iL:=by
    rintro L t4 j b4 ag aC⟨dF,amA⟩Pz aae;have amB:mh.heap[l]?=some (.loop L):=aaq.m _ b4;obtain⟨a9,post,dK⟩:=u9 b4;have mz:sh.Perm (⟨l,.loop L⟩::(a9++post)):=by rw[dK];exact mv
    have kx:∀ i e5,t4.get i=some e5->i≠m.n/\m2.t.get i=some e5:=λi e5 hi=>by
     rcases Pz i e5 hi with⟨_,fj⟩ | fj;·cases fj
     ·exact fj
    have kF:=(si.hS (.perm mz .refl)).Gn (o':=.loop { L with state:=.exhausted });refine⟨_,(by rw[<-aC];exact run_endLoop amB ag),Il,F,C,hW,a9++post,⟨β,kF⟩,amy,⟨λi e5 b hi jq=>?_,λi gQ e5 z9 b iI hi cX=>rX.inj i gQ e5 z9 b iI (kx i e5 hi).2 (kx gQ z9 cX).2,rX.jQ,rX.qK⟩,amz,aae⟩;refine(rX.iQ i e5 b (kx i e5 hi).2 jq).mono (bO.le_refl Il) λq aP aB=>?_;rcases ee.1 (mz.mem_iff.1 aP)with rfl | aP;·exact((kx i e5 hi).1 (rX.inj _ _ _ _ _ _ (kx i e5 hi).2 amA jq y9 aB.symm)).elim
    ·exact aP
   have n7:∀ {dF:fG},m2.t.get m.n=some dF->n0<=m2.n:=λ_=>by have:=rX.jQ _ _ y9;omega
   have b5:(match m2.t.get m.n with
    |some (.loop false ..)=>m2.t.nH none m.n λt=>some (s'.normal,al,(⟨t,m2.n⟩:bo))
    |some (.done c ..)=>bq (QV c) none λex=>m2.t.nH none m.n λt=>some (ex,al,⟨t,m2.n⟩)
    |_=>none)=some (ex,c6,m'):=bB
   split at b5;·rename_i KP amC amD amE amF rA;obtain⟨L,b4,aar⟩:=(rX.iQ _ _ _ rA y9).LZ;obtain⟨t4,dZ,fj⟩:=be.o2 (none:Option fG) m2.t m.n;rw[dZ]at b5;cases b5;obtain⟨iL,dN,ql⟩:=fin L t4 none b4 (by rw[aar.aY];simp) aar.qg ⟨_,rA⟩ fj (n7 rA);exact⟨none,iL,dN,rfl,ql⟩
   ·rename_i c KP amC amD amE amF rA;obtain⟨L,b4,eu,RX⟩:=(rX.iQ _ _ _ rA y9).ami;obtain⟨Cj,hex,b5⟩:=cp b5;obtain⟨t4,dZ,fj⟩:=be.o2 (none:Option fG) m2.t m.n;rw[dZ]at b5;cases b5;obtain⟨iL,dN,ql⟩:=fin L t4 (some c) b4 (by rw[eu];simp) RX ⟨_,rA⟩ fj (n7 rA);refine⟨some c,iL,dN,?_⟩;unfold QV at hex;split at hex
    ·cases hex;exact wpIn_exit ⟨rfl,ql⟩
    ·cases hex;exact wpIn_goto ⟨rfl,ql⟩
    ·cases hex;exact wpIn_ret ⟨rfl,ql⟩
    ·cases hex
   ·cases b5
 ·cases h
end
section
variable{Y:gH}
def aas{next:Act->World->Prop}{a:Act}(h:Q (Ac ex) a w)(bn:ex≠.normal):Exit.then next Q (Ac ex) a w:=by cases ex<;>first | exact(bn rfl).elim | exact h
def amG(aM:cU Y.P Y.E)(bG:wI Y.P)(lZ:yd Y)(ij:Y.P.follows .mixedOrders=true):∀ f k,k<=f->Cs Y k:=by
 intro f
 induction f with
 |zero=>
  intro k ae gE n c al m ex c6 m' h;have:k=0:=by omega
  subst this;cases h
 |succ f aN=>
  intro k ae;by_cases Hq:k<=f;·exact aN k Hq
  have tr:k=f+1:=by omega
  subst tr;have ap:=aN f (cc _);have mP:=amu aM bG lZ ap;intro gE n c al m ex c6 m' h bu B az dp foot ro D0 n0 a w gp ar;have aa:QX Y f (lV Y f) gE n c al m=some (ex,c6,m'):=h;have kn:=@jR.gx Y n B az dp foot ro;unfold QX at aa;cases c with
  |skip=>cases aa;exact wpIn_skip ⟨rfl,ar⟩| label l=>cases aa;exact wpIn_label ⟨rfl,ar⟩| ret=>cases aa;exact wpIn_ret ⟨rfl,ar⟩| exit id=>cases aa;exact wpIn_exit ⟨rfl,ar⟩| goto l=>cases aa;exact wpIn_goto ⟨rfl,ar⟩| refuse s=>cases aa
  |seq x y=>
   simp only[h2,cB]at bu;simp only[HP]at aa;split at aa;·rename_i fA c5 ad;refine wpIn_seq (wpIn_mono (ap _ _ _ _ _ _ _ _ ad bu.1 B az dp foot ro D0 n0 a w gp ar) ?_);rintro e cL hV⟨rfl,fo⟩;exact ap _ _ _ _ _ _ _ _ aa bu.2 B az dp foot ro D0 n0 cL hV gp fo
   ·rename_i dY;refine wpIn_seq (wpIn_mono (ap _ _ _ _ _ _ _ _ aa bu.1 B az dp foot ro D0 n0 a w gp ar) ?_);rintro e cL hV⟨rfl,fo⟩;exact aas ⟨rfl,fo⟩ λe=>dY c6 m' (by rw[aa,e])
  |block id c=>
   simp only[h2]at bu;simp only[YX]at aa;split at aa
   ·rename_i j fA c5 ad;refine wpIn_block (wpIn_mono (ap _ _ _ _ _ _ _ _ ad bu B az dp foot ro D0 n0 a w gp ar) ?_);rintro e cL hV⟨rfl,fo⟩;simp only[Ac,Exit.inBlock];by_cases ai:j=id
    ·subst ai;rw[q0]at aa;have ab:some (s'.normal,fA,c5)=some (ex,c6,m'):=aa;cases ab;rw[bQ rfl];exact⟨rfl,fo⟩
    ·rw[hp ai]at aa;have ab:some (s'.exit j,fA,c5)=some (ex,c6,m'):=aa;cases ab;rw[bU ai];exact⟨rfl,fo⟩
   ·rename_i dY;refine wpIn_block (wpIn_mono (ap _ _ _ _ _ _ _ _ aa bu B az dp foot ro D0 n0 a w gp ar) ?_);rintro e cL hV⟨rfl,fo⟩;cases ex with
    |exit j=>exact(dY j c6 m' aa).elim| normal=>exact⟨rfl,fo⟩| goto l=>exact⟨rfl,fo⟩| ret=>exact⟨rfl,fo⟩
  |cond x gz gJ=>
   simp only[h2,cB]at bu;simp only[YY]at aa;split at aa
   ·rename_i b ad;refine wpIn_cond (ar.eval ad) ?_;cases b with
    |true=>exact ap _ _ _ _ _ _ _ _ aa bu.1 B az dp foot ro D0 n0 a w gp ar| false=>exact ap _ _ _ _ _ _ _ _ aa bu.2 B az dp foot ro D0 n0 a w gp ar
   ·cases aa
  |loop c=>
   simp only[h2]at bu;let J (k:Nat) (a:Act) (w:World):Prop:=k<=f+1/\∃ fA c5,lV Y k gE n (.loop c) fA c5=some (ex,c6,m')/\lD (jR Y n B az dp foot ro) Y.G Y.pr D0 n0 fA c5 a w
   refine JC J (m:=f+1) ⟨cc _,al,m,h,ar⟩ ?_;rintro k cL hV⟨ae,fA,c5,ab,fo⟩;cases k with
   |zero=>cases ab
   |succ k=>
    have BQ:=aN k (by omega);have ak:HP (lV Y k gE n c fA c5) (lV Y k gE n (.loop c))=some (ex,c6,m'):=ab;simp only[HP]at ak;split at ak;·rename_i vh m2 ad;refine wpIn_mono (BQ _ _ _ _ _ _ _ _ ad bu B az dp foot ro D0 n0 cL hV gp fo) ?_;rintro e dW ku⟨rfl,ik⟩;exact⟨k,AR k,by omega,vh,m2,ak,ik⟩
    ·rename_i dY;refine wpIn_mono (BQ _ _ _ _ _ _ _ _ ak bu B az dp foot ro D0 n0 cL hV gp fo) ?_;rintro e dW ku⟨rfl,ik⟩;exact aas ⟨rfl,ik⟩ λe=>dY c6 m' (by rw[ak,e])
  |region id ops amH=>
   cases amH with
   |false=>simp only[Lr]at aa;obtain⟨⟨fA,c5⟩,ad,ab⟩:=cp aa;cases ab;refine wpIn_region ?_;have:=Rx (X:=jR Y n B az dp foot ro) (G:=Y.G) (pr:=Y.pr) (D0:=D0) (n0:=n0) aM kn mP ops (λe a w=>e=Ac .normal/\lD (jR Y n B az dp foot ro) Y.G Y.pr D0 n0 fA c5 a w) (λa w h=>⟨rfl,h⟩) ops.toList 0 (by simp) (JB bu) ad ar;have dN:wpOpsIn (g3 (jR Y n B az dp foot ro)) 0 Y.P ops (λe a w=>e=Ac .normal/\lD (jR Y n B az dp foot ro) Y.G Y.pr D0 n0 fA c5 a w) (List.range' 0 ops.toList.length) a w:=this;rw[w3];simpa using dN
   |true=>simp only[Lr]at aa;obtain⟨⟨fA,c5⟩,ad,ab⟩:=cp aa;cases ab;exact alQ (X:=jR Y n B az dp foot ro) (G:=Y.G) (pr:=Y.pr) (D0:=D0) (n0:=n0) aM kn mP ij bu ad (λa w h=>⟨rfl,h⟩) ar
  |scope c=>
   simp only[h2]at bu;have step:∀ (k:Nat) (x:Code) (fA:be ao) (c5:bo) (cL:Act) (hV:World),h2 n x=true->HQ (lV Y f) gE n c (k+1) x fA c5=some (ex,c6,m')->lD (jR Y n B az dp foot ro) Y.G Y.pr D0 n0 fA c5 cL hV ->
     x.wpIn (g3 (jR Y n B az dp foot ro)) 0 Y.P (λe bM w'=>match e with
      | .goto l=>∃ bi vh m2,findLabel c l=some bi/\HQ (lV Y f) gE n c k bi vh m2=some (ex,c6,m')/\lD (jR Y n B az dp foot ro) Y.G Y.pr D0 n0 vh m2 bM w'| e=>e=Ac ex/\lD (jR Y n B az dp foot ro) Y.G Y.pr D0 n0 c6 m' bM w') cL hV:=λk x fA c5 cL hV ad ab fo=>by
    have ak:(match lV Y f gE n x fA c5 with
     |some (.goto l,al,m)=>bq (findLabel c l) none λbi=>HQ (lV Y f) gE n c k bi al m
     |r=>r)=some (ex,c6,m'):=ab
    split at ak;·rename_i l vh m2 he;obtain⟨bi,te,aJ⟩:=cp ak;refine wpIn_mono (ap _ _ _ _ _ _ _ _ he ad B az dp foot ro D0 n0 cL hV gp fo) ?_;rintro e dW ku⟨rfl,ik⟩;exact⟨bi,vh,m2,te,aJ,ik⟩
    ·rename_i dY;refine wpIn_mono (ap _ _ _ _ _ _ _ _ ak ad B az dp foot ro D0 n0 cL hV gp fo) ?_;rintro e dW ku⟨rfl,ik⟩;cases ex with
     |goto l=>exact(dY l c6 m' ak).elim| exit j=>exact⟨rfl,ik⟩| normal=>exact⟨rfl,ik⟩| ret=>exact⟨rfl,ik⟩
   let J (l k:Nat) (a:Act) (w:World):Prop:=∃ bi fA c5,findLabel c l=some bi/\HQ (lV Y f) gE n c k bi fA c5=some (ex,c6,m')/\lD (jR Y n B az dp foot ro) Y.G Y.pr D0 n0 fA c5 a w
   cases f with
   |zero=>cases aa
   |succ uH=>
    refine U8 J (wpIn_mono (step uH c al m a w bu aa ar) ?_) ?_
    ·intro e cL hV he;cases e with
     |goto l=>exact⟨uH,he⟩| _=>exact he
    ·rintro l k cL hV⟨bi,fA,c5,te,ab,fo⟩;cases k with
     |zero=>cases ab
     |succ k=>
      refine⟨bi,te,wpIn_mono (step k bi fA c5 cL hV (RO bu te) ab fo) ?_⟩;intro e dW ku he;cases e with
      |goto dL=>exact⟨k,AR k,he⟩| _=>exact he
  |rangeFunc x ps fe body=>exact amv aM bG lZ ap aa bu gp ar
def reckon(aM:cU Y.P Y.E)(bG:wI Y.P)(lZ:yd Y)(ij:Y.P.follows .mixedOrders=true){args:List ao}{m m':bo}{v:ao}(h:zT Y (lV Y f) g args m=some (v,m'))(hu:bN D args us)(hm:c8 Y D m I M) : Spec Y.P g us I M λr I' M'=>∃ bC,D.ext bC m.n/\aT bC v r/\c8 Y bC m' I' M':=
 Z5 aM bG lZ (amG aM bG lZ ij f f (cc _)) h hu hm
end
def aat{w':World}(h:ey I M w)(aa:ey I' M' w')(ab:Kept I [] w I' M' w') :
  ey I' (M'++M) w'/\Kept I M w I' (M'++M) w'/\∀ x∈M',∀ y∈M,x.num≠y.num:=by
 have aV:∀ x∈M,x.num<w.heap.size:=λx ad=>(lJ.1 (h.m x ad)).1;have cA:∀ x∈M',w.heap.size<=x.num:=λx ad=>by
  rcases ab.vC x ad with⟨y,aE,_⟩ | h;·cases aE
  ·exact h
 have bn:∀ x∈M',∀ y∈M,x.num≠y.num:=λx ad y aE e=>by have:=aV y aE;have:=cA x ad;omega
 refine⟨⟨aa.i,λx ad=>?_,λx ad=>?_,?_⟩,⟨ab.le,ab.uh,λx ad=>?_,λb ag _=>ab.dE b ag (by simp),ab.out,ab.sz⟩,bn⟩
 ·rcases cE.1 ad with ad | ad
  ·exact aa.m x ad
  ·rw[ab.dE x.num (aV x ad) (by simp)];exact h.m x ad
 ·rcases cE.1 ad with ad | ad
  ·exact aa.d x ad
  ·cases he:I' x.num with
   |none=>rfl
   |some o=>
    rcases ab.uh _ _ he with ak | ak;·rw[h.d x ad]at ak;cases ak
    ·have:=aV x ad;omega
 ·rw[cP,r5];refine⟨aa.cd,h.cd,λa a2 b ag e=>?_⟩;obtain⟨x,ad,rfl⟩:=cC.1 a2;obtain⟨y,aE,rfl⟩:=cC.1 ag;exact bn x ad y aE e
 ·rcases cE.1 ad with ad | ad
  ·exact .inr (cA x ad)
  ·exact .inl ⟨x,ad,rfl⟩
def Spec.frame{args:List Value}{Q:Value->aI->List aD->Prop}(h:Spec P f args I [] Q):Spec P f args I M λr I' mf=>∃ M',mf=M'++M/\(∀ x∈M',∀ y∈M,x.num≠y.num)/\(∀ b o,I b=some o->I' b=some o)/\Q r I' M':=by
 have az:∀ {w:World},ey I M w->ey I [] w:=λhw=>⟨hw.i,by simp,by simp,by simp⟩;rcases h with⟨aa,ab⟩ | h
 ·refine .inl ⟨aa,λw hw=>?_⟩;refine(ab w (az hw)).mono ?_;rintro e w'⟨v,I',M',aG,a7,cr,ea⟩;obtain⟨a8,ba,bP⟩:=aat hw cr ea;exact⟨v,I',M'++M,aG,⟨M',rfl,bP,ea.le,a7⟩,a8,ba⟩
 ·refine .inr λw hw=>?_;obtain⟨v,w',I',M',aG,a7,cr,ea⟩:=h w (az hw);obtain⟨a8,ba,bP⟩:=aat hw cr ea;exact⟨v,w',I',M'++M,aG,⟨M',rfl,bP,ea.le,a7⟩,a8,ba⟩
mutual
def jS(k:Nat):ao->ao
 | .p id off=>.p (Nat.add id k) off| .sl id off n c=>.sl (Nat.add id k) off n c| .sx id off e n=>.sx (Nat.add id k) off e n| .m id=>.m (Nat.add id k)| .y id=>.y (Nat.add id k)| .f g l r=>.f g (qO k l) (qO k r)| .HD t v=>.HD t (jS k v)| .t l=>.t (qO k l)| .a l=>.a (qO k l)| .b x=>.b x| .i a n=>.i a n| .s l=>.s l| .pn=>.pn| .g n off=>.g n off| .sn=>.sn| .gs n off a c=>.gs n off a c| .so=>.so| .mn=>.mn| .fn=>.fn| .ni=>.ni
def qO(k:Nat):List ao->List ao
 |[]=>[]| v::l=>jS k v::qO k l
end
section
mutual
def EQ{D0 D:bO}{k:Nat}(dr:∀ id a,D0 id=some a->D (Nat.add id k)=some a):∀ (v:ao) {u:Value},aT D0 v u->aT D (jS k v) u
 | .p id off,u,h=>by simp only[aT,jS]at h |-;obtain⟨a,a2,h⟩:=h;exact⟨a,dr _ _ a2,h⟩
 | .sl id off n c,u,h=>by simp only[aT,jS]at h |-;obtain⟨a,a2,h⟩:=h;exact⟨a,dr _ _ a2,h⟩
 | .sx id off e n,u,h=>by simp only[aT,jS]at h |-;obtain⟨a,a2,h⟩:=h;exact⟨a,dr _ _ a2,h⟩
 | .m id,u,h=>by simp only[aT,jS]at h |-;obtain⟨a,a2,h⟩:=h;exact⟨a,dr _ _ a2,h⟩
 | .y id,u,h=>by simp only[aT,jS]at h |-;obtain⟨a,a2,h⟩:=h;exact⟨a,dr _ _ a2,h⟩
 | .f g l r,u,h=>by simp only[aT,jS]at h |-;obtain⟨vs,ws,aa,ab,h⟩:=h;exact⟨vs,ws,Im dr l aa,Im dr r ab,h⟩
 | .HD t v,u,h=>by simp only[aT,jS]at h |-;obtain⟨x,aa,h⟩:=h;exact⟨x,EQ dr v aa,h⟩
 | .t l,u,h=>by simp only[aT,jS]at h |-;obtain⟨x,aa,h⟩:=h;exact⟨x,Im dr l aa,h⟩
 | .a l,u,h=>by simp only[aT,jS]at h |-;obtain⟨x,aa,h⟩:=h;exact⟨x,Im dr l aa,h⟩
 | .b x,u,h=>by simpa only[aT,jS]using h
 | .i a n,u,h=>by simpa only[aT,jS]using h
 | .s l,u,h=>by simpa only[aT,jS]using h
 | .pn,u,h=>by simpa only[aT,jS]using h
 | .g n off,u,h=>by simpa only[aT,jS]using h
 | .sn,u,h=>by simpa only[aT,jS]using h
 | .gs n off a c,u,h=>by simpa only[aT,jS]using h
 | .so,u,h=>by simpa only[aT,jS]using h
 | .mn,u,h=>by simpa only[aT,jS]using h
 | .fn,u,h=>by simpa only[aT,jS]using h
 | .ni,u,h=>by simpa only[aT,jS]using h
def Im{D0 D:bO}{k:Nat}(dr:∀ id a,D0 id=some a->D (Nat.add id k)=some a):∀ (l:List ao) {us:List Value},bN D0 l us->bN D (qO k l) us
 |[],us,h=>by simpa only[bN,qO]using h
 |v::l,us,h=>by simp only[bN,qO]at h |-;obtain⟨x,xs,aa,ab,h⟩:=h;exact⟨x,xs,EQ dr v aa,Im dr l ab,h⟩
end
end
end Go.V
