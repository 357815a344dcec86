/- Part 6 of what the proofs of this seat share: the executor, data in memory, walks.
-/
import Derived.Test.YtmncamccjfmbpaaGreatDoorK5
import Derived.Test.YtmncamccjfmbpaaGreatDoorK3
import Derived.Lib.SliceRun
set_option linter.all false
namespace Go.V
open Go
def nQ:=@List.mem_cons_of_mem
def vi:=@List.append_of_mem
def RP:=@List.filter_eq_nil_iff
def RQ:=@List.reverse_reverse
variable{xs cs Ah b8 us:List Value}{u l9:Value}{b:Bool}{args:Array Operand}{fK:Array Nat}{op:Op}{D bC Mb D0:bP}{a cR:Option Addr}{G:GT}{bq:bf fG}{hS j e off t g clock cC b1 f n0:Nat}{db:fG}{x y os pO lo hi mx:Operand}{E:Env}{P:Program}{w:World}{mg:TypeDesc}{ut:Option dG}{aF lP c7:dG}{R α:Type}{cy gG:IntKind}{dst:Option Nat}{F dm:Fr}{call:ap->List ap->bp->Option (ap×bp)}{ops:List Oper}{β:Nat->Nat}{X:cU}{Q:Exit->Act->World->Prop}{Y:gN}{I dn I':aJ}{M M':List aD}{row:List (Nat×Nat)}{ex:tn}{ps:List Nat}{fg body:Code}{hc:Loc}{pr:lW}
section
variable{X:cU}{G:GT}{pr:lW}{D:bP}{m:bp}{F:Fr}{al:bf ap}{C:dC}{I:aJ}{M:List aD}{V:dA->Prop}{O:Prop}
def als(c:Bool)(a b:Value):JS c (.val a) (.val b)=.val (bif c then a else b):=by cases a<;>cases b<;>cases c<;>rfl
def ZY{o:Option Operand}{xs:List Operand}(H:jl D F al xs)(ad:∀ y,o=some y->y∈xs){r:Option Nat}(h:Cn (o.map (dj al))=some r) :
  (o.map (dy (dk F))=none/\r=none)\/∃ k n,o.map (dy (dk F))=some (.val (.int k (Int.ofNat n)))/\r=some n:=by
 cases o with
 |none=>simp[Cn]at h;exact .inl ⟨rfl,h.symm⟩
 |some y=>
  simp only[k9,Cn]at h;cases ah:dj al y with
  |none=>rw[ah]at h;cases h
  |some v=>
   rw[ah]at h;simp only at h;split at h;·rename_i n aB;cases h;obtain⟨k,rfl⟩:=E5 aB;obtain⟨u,hu,af⟩:=H.bE (ad y rfl) ah;rw[af.int]at hu;exact .inr ⟨k,n,by simp only[k9];exact congrArg some hu,rfl⟩
   ·cases h
def RR(l:List UInt8)(lo hi:Nat):(⟨(Q' l lo hi).toArray⟩:ByteArray)=(⟨l.toArray⟩:ByteArray).extract lo hi:=by apply vL;apply gV;unfold Q';rw[Ih];simp[JO,List.extract_eq_take_drop]
def alt{v:ap}{n:Nat}(h:wF v=some n)(ah:aU D v u):∃ a c,u=.slice a n c:=by
 unfold wF at h;split at h
 ·cases h;exact⟨_,_,ah.Cu⟩
 ·cases h;obtain⟨a,c,rfl⟩:=ah.L1;exact⟨_,_,rfl⟩
 ·cases h;obtain⟨a,_,rfl⟩:=ah.sX;exact⟨_,_,rfl⟩
 ·cases h;obtain⟨a,_,_,rfl⟩:=ah.vg;exact⟨_,_,rfl⟩
 ·cases h;exact⟨_,_,ah.RF⟩
 ·cases h
def alu(aO:cT X.P X.E){b:Builtin}{fK:Array TypeId}{v:ap}(h:Re X.E b fK.toList (oa al args.toList)=some v)(H:jl D F al args.toList)(k:∀ x,gp D x v->V x) :
  cG X (.call { callee:=.builtin b,args:=args,argTypes:=fK }) (dk F) C I M V O:=by
 unfold Re at h;split at h
 ·
  unfold Za at h;split at h
  ·rename_i t w av ay;obtain⟨us,aG,a8⟩:=H.mP (λ_ h=>h) ay;obtain⟨u,xs,ba,bQ,rfl⟩:=a8.kF;have:=bQ.nP;subst this;have ej:j0 (dk F) args.toList=some [u]:=aG;simp only[cG,av,ej];split at h
   ·rename_i a b z e r4 oF;unfold LL at h;obtain⟨n,aB,h⟩:=cp h;have dW:some (ap.i .i64 (.ofNat n))=some v:=h;cases dW;obtain⟨bO,c,rfl⟩:=alt aB ba;simp only[oF];exact k _ (.val (by simp only[aU];rfl))
   ·rename_i a b z l oF;cases h;rw[ba.str];simp only[oF];refine k _ (.val ?_);simp only[aU];simp[ByteArray.size]
   ·rename_i a b z n e r4 oF;cases h;cases u<;>(simp only[oF];exact k _ (.val (by simp only[aU];rfl)))
   ·cases h
  ·cases h
 ·unfold Zb at h;split at h
  ·rename_i eg a cy b ay;obtain⟨us,aG,a8⟩:=H.mP (λ_ h=>h) ay;obtain⟨u,xs,ba,bQ,rfl⟩:=a8.kF;obtain⟨w,ys,ft,lj,rfl⟩:=bQ.kF;have:=lj.nP;subst this;have ej:j0 (dk F) args.toList=some [u,w]:=aG;rw[ba.int,ft.int]at ej;simp only[cG,ej];cases h;refine k _ (.val ?_);simp only[aU];rw[kE,LY];by_cases kz:a<=b
   ·simp[kz];omega
   ·simp[kz];omega
  ·cases h
 ·unfold Zc at h;split at h
  ·rename_i eg a cy b ay;obtain⟨us,aG,a8⟩:=H.mP (λ_ h=>h) ay;obtain⟨u,xs,ba,bQ,rfl⟩:=a8.kF;obtain⟨w,ys,ft,lj,rfl⟩:=bQ.kF;have:=lj.nP;subst this;have ej:j0 (dk F) args.toList=some [u,w]:=aG;rw[ba.int,ft.int]at ej;simp only[cG,ej];cases h;refine k _ (.val ?_);simp only[aU];rw[kE,LY];by_cases kz:a<=b
   ·simp[kz];omega
   ·simp[kz];omega
  ·cases h
 ·unfold Zd at h;split at h
  ·rename_i t id off n c av ay;split at h
   ·rename_i a b z e oF;cases h;obtain⟨us,aG,a8⟩:=H.mP (λ_ h=>h) ay;obtain⟨u,xs,ba,bQ,rfl⟩:=a8.kF;have:=bQ.nP;subst this;obtain⟨bO,a4,rfl⟩:=ba.sX;have ej:j0 (dk F) args.toList=some [_]:=aG;simp only[cG,av,ej,oF];exact k _ (.val (by simp only[aU];rfl))
   ·cases h
  ·cases h
 ·unfold Ze at h;split at h
  ·rename_i ay;cases h;obtain⟨us,aG,a8⟩:=H.mP (λ_ h=>h) ay;obtain⟨u,xs,ba,bQ,rfl⟩:=a8.kF;have:=bQ.nP;subst this;rw[ba.Cu]at aG;have ej:j0 (dk F) args.toList=some [_]:=aG;simp only[cG,ej];exact k _ (.val (by simp only[aU]))
  ·rename_i id off n c ay;obtain⟨az,h⟩:=Ab h;cases h;obtain⟨us,aG,a8⟩:=H.mP (λ_ h=>h) ay;obtain⟨u,xs,ba,bQ,rfl⟩:=a8.kF;have:=bQ.nP;subst this;obtain⟨bO,a4,rfl⟩:=ba.sX;have ej:j0 (dk F) args.toList=some [_]:=aG;simp only[cG,ej];refine⟨λe=>?_,k _ (.val ?_)⟩
   ·have:c=0:=by omega
    subst this;cases az
   ·simp only[aU];exact⟨bO,a4,rfl⟩
  ·rename_i id off e n ay;obtain⟨az,h⟩:=Ab h;cases h;obtain⟨us,aG,a8⟩:=H.mP (λ_ h=>h) ay;obtain⟨u,xs,ba,bQ,rfl⟩:=a8.kF;have:=bQ.nP;subst this;obtain⟨bO,a4,bm,rfl⟩:=ba.vg;have ej:j0 (dk F) args.toList=some [_]:=aG;simp only[cG,ej];refine⟨λcX=>?_,k _ (.val ?_)⟩
   ·have:n=0:=by omega
    subst this;cases az
   ·simp only[aU];exact⟨bO,a4,rfl⟩
  ·cases h
 ·cases h
def alv(aO:cT X.P X.E){v:ap}(h:Rf X.P X.E G m.t op al=some v)(H:jl D F al op.operands.toList)(hm:c9 (dN X G pr) D m I M)(k:∀ x,gp D x v->V x):cG X op (dk F) C I M V O:=by
 unfold Rf at h;split at h
 ·
  exact k _ (H _ (by simp[Op.operands]) _ h)
 ·exact k _ (H _ (by simp[Op.operands]) _ h)
 ·
  rename_i c a b;unfold YY at h;split at h
  ·rename_i q u w aa ab aj;cases h;have an:=H c (by simp[Op.operands]) _ aa;have a4:=H a (by simp[Op.operands]) _ ab;have ag:=H b (by simp[Op.operands]) _ aj;simp only[cG];rcases an with⟨avn,wN,an⟩ | ⟨e0,cX,wN⟩
   ·rw[an.bool]at wN;simp only[wN];obtain⟨RS,r1,alw⟩:=a4.dy;obtain⟨RT,Lz,cJ⟩:=ag.dy;have alx:dy (dk F) a=.val RS:=r1;have aly:dy (dk F) b=.val RT:=Lz;rw[alx,aly];refine k _ (.inl ⟨bif q then RS else RT,?_,?_⟩)
    ·exact als q RS RT
    ·cases q
     ·exact cJ
     ·exact alw
   ·cases cX;simp only[wN];cases q
    ·exact k _ ag
    ·exact k _ a4
  ·cases h
 ·
  rename_i avo t x;unfold YZ at h;split at h
  ·rename_i b aa;cases h;have ad:=H x (by simp[Op.operands]) _ aa;simp only[cG];rcases ad with⟨u,e,hu⟩ | ⟨q,aG,e⟩
   ·rw[hu.bool]at e;simp only[e];exact k _ (.val (by simp only[aU];rw[RN]))
   ·cases aG;simp only[e];exact k _ (.inr ⟨!b,by rw[RN],rfl⟩)
  ·rename_i gh n aa;cases h;have ad:=H x (by simp[Op.operands]) _ aa;obtain⟨u,e,hu⟩:=ad.wJ (by simp);rw[hu.int]at e;simp only[cG,e];exact⟨_,rfl,k _ (.val (by simp only[aU];rw[Ac]))⟩
  ·cases h
 ·
  rename_i avp t x y bq;unfold Y0 at h;obtain⟨a,aa,h⟩:=cp h;obtain⟨b,ab,h⟩:=cp h;obtain⟨u,aG,a8⟩:=H.bE (x:=x) (by simp[Op.operands]) aa;obtain⟨w,a7,ba⟩:=H.bE (x:=y) (by simp[Op.operands]) ab;have ej:dy (dk F) x=.val u:=aG;have q9:dy (dk F) y=.val w:=a7;simp only[cG,ej,q9];exact alm aO h a8 ba λr af=>k _ (.val af)
 ·
  rename_i t x;unfold Y1 at h;obtain⟨i,hi,h⟩:=cp h;obtain⟨a,aa,h⟩:=cp h;have ad:=H x (by simp[Op.operands]) _ aa;have ym:∀ q,a≠.b q:=λq e=>by subst e;cases h
  obtain⟨u,aG,a8⟩:=ad.wJ ym;obtain⟨aS,l,vs,rfl,bl,ay,aC⟩:=wK hm a8 h;simp only[cG,hi,aG];exact⟨vs,bl,k _ (.val (L4 aC ay))⟩
 ·
  rename_i x;unfold Y2 at h;split at h;·rename_i id off aa;cases h;obtain⟨u,aG,a8⟩:=(H x (by simp[Op.operands]) _ aa).wJ (by simp);obtain⟨a,a4,rfl⟩:=a8.ptr;simp only[cG,aG];exact k _ (.val a8)
  ·rename_i id off aa;cases h;obtain⟨u,aG,a8⟩:=(H x (by simp[Op.operands]) _ aa).wJ (by simp);have:=a8.qR;subst this;simp only[cG,aG];exact k _ (.val a8)
  ·cases h
 ·
  rename_i t x i;unfold Y3 at h;obtain⟨r,af,h⟩:=cp h;obtain⟨a,aa,h⟩:=cp h;obtain⟨off,hj⟩:=r;obtain⟨bb,h⟩:=Ab h;obtain⟨sa,sY,sz,cQ,fp,av,aA,tP⟩:=ZX af;have ad:=H x (by simp[Op.operands]) _ aa;have ym:∀ q,a≠.b q:=λq e=>by subst e;cases h
  obtain⟨u,aG,a8⟩:=ad.wJ ym;obtain⟨aS,rfl,ar,ah⟩:=ZV h a8;have g9:Nat.beq hj.size 0=false:=bb;simp only[cG,av,aA,tP,aG,g9,b'];exact k _ (.val ah)
 ·
  rename_i t x i;unfold Y4 at h;split at h;·rename_i off hj cs az aa;obtain⟨sa,sY,sz,cQ,fp,av,aA,tP⟩:=ZX az;obtain⟨u,aG,a8⟩:=H.bE (x:=x) (by simp[Op.operands]) aa;obtain⟨us,fE,rfl⟩:=a8.agg;obtain⟨ab,aj⟩:=ZW h fE;have ej:dy (dk F) x=.val (.agg us.toArray):=aG;simp only[cG,av,ej,aA,tP];rw[show Nat.ble (off+hj.size) us.toArray.size=true from Cf (by simpa using ab)];exact k _ (.val aj)
  ·cases h
 ·
  rename_i t x i;unfold Y5 at h;obtain⟨r,af,h⟩:=cp h;obtain⟨a,aa,h⟩:=cp h;obtain⟨b,ab,h⟩:=cp h;obtain⟨j,ai,h⟩:=cp h;obtain⟨gh,rfl⟩:=E5 ai;obtain⟨u,a7,ba⟩:=H.bE (x:=i) (by simp[Op.operands]) ab;rw[ba.int]at a7;have q9:dy (dk F) i=.val (.int gh (.ofNat j)):=a7;obtain⟨Im,aF⟩:=r;rcases alp af with⟨sa,sY,sz,e,av,he,rfl⟩ | ⟨sa,sY,sz,n,e,av,he,rfl⟩;·have bc:LI a j aF.size=some v:=h;obtain⟨w,aG,a8⟩:=H.bE (x:=x) (by simp[Op.operands]) aa;obtain⟨aS,n,c,rfl,aX,ah⟩:=alo bc a8;have ej:dy (dk F) x=.val (.slice (some aS) n c):=aG;simp only[cG,av,q9,he,ej];exact⟨aS,j,rfl,rfl,aX,k _ (.val ah)⟩
  ·have bc:bY (Nat.blt j n) (H4 a (Nat.mul j aF.size)) none=some v:=h;obtain⟨ag,bc⟩:=fW bc;have ad:=H x (by simp[Op.operands]) _ aa;have ym:∀ q,a≠.b q:=λq e=>by subst e;cases bc
   obtain⟨w,aG,a8⟩:=ad.wJ ym;obtain⟨aS,rfl,ar,ah⟩:=ZV bc a8;simp only[cG,av,q9,he,aG];exact⟨j,rfl,bJ ag,k _ (.val ah)⟩
 ·
  rename_i t x i;cases aa:dj al x with
  |none=>rw[aa]at h;unfold H5 at h;split at h<;>first | cases h | (rename_i e _;cases e)
  |some a=>
   cases ab:dj al i with
   |none=>rw[ab]at h;unfold H5 at h;split at h<;>first | cases h | (rename_i e;cases e)
   |some b=>rw[aa,ab]at h;obtain⟨u,aG,a8⟩:=H.bE (x:=x) (by simp[Op.operands]) aa;obtain⟨w,a7,ba⟩:=H.bE (x:=i) (by simp[Op.operands]) ab;exact alq h a8 ba aG a7 k
 ·
  rename_i t parts;unfold Y7 at h;split at h
  ·rename_i i vs av aC;obtain⟨z,bb,h⟩:=cp h;have g9:=bM.EZ (D:=D) bb;obtain⟨us,aG,a8⟩:=H.parts (l:=parts.toList) (by intro y aE;simpa[Op.operands]using aE) aC;have ej:th (dk F) parts.toList=some us:=aG
   try simp only at h
   split at h;·rename_i cQ nZ;obtain⟨jz,h⟩:=fW h;unfold H6 at h;obtain⟨cs,aj,aI⟩:=cp h;have dW:some (ap.a cs)=some v:=aI;cases dW;obtain⟨a0,bB,b4⟩:=L5 aj g9 a8;simp only[cG,av,ej,nZ,jz,b5,bB];exact k _ (.val (.L2 b4))
   ·rename_i n e nZ;obtain⟨aF,he,h⟩:=cp h;have bc:H6 (z8 (λj=>some (j*aF.size,aF.size)) z vs)=some v:=h;unfold H6 at bc;obtain⟨cs,aj,aI⟩:=cp bc;have dW:some (ap.a cs)=some v:=aI;cases dW;obtain⟨a0,bB,b4⟩:=L5 aj g9 a8;simp only[cG,av,ej,nZ,he,bB];exact k _ (.val (.L2 b4))
   ·cases h
  ·cases h
 ·
  rename_i f first captured
  unfold Y8 at h;split at h
  ·rename_i g cQ cs aa ab;cases h;obtain⟨us,aG,a8⟩:=H.mP (l:=first.toList) (by intro y aE;simp[Op.operands];exact .inl (by simpa using aE)) aa;obtain⟨ws,a7,ba⟩:=H.mP (l:=captured.toList) (by intro y aE;simp[Op.operands];exact .inr (by simpa using aE)) ab;have ej:j0 (dk F) first.toList=some us:=aG
   have q9:j0 (dk F) captured.toList=some ws:=a7;simp only[cG,ej,q9];exact k _ (.val (by simp only[aU];exact⟨us,ws,a8,ba,rfl⟩))
  ·cases h
 ·
  rename_i t x lo hi;cases aa:dj al x with
  |none=>rw[aa]at h;unfold H7 at h;split at h<;>first | cases h | (rename_i e _ _;cases e)
  |some a=>
   rw[aa]at h;cases ab:Cn (lo.map (dj al))with
   |none=>rw[ab]at h;unfold H7 at h;split at h<;>first | cases h | (rename_i e _;cases e)
   |some l=>
    rw[ab]at h;cases aj:Cn (hi.map (dj al))with
    |none=>rw[aj]at h;unfold H7 at h;split at h<;>first | cases h | (rename_i e;cases e)
    |some cS=>
     rw[aj]at h;obtain⟨u,aG,a8⟩:=H.bE (x:=x) (by simp[Op.operands]) aa;have ej:dy (dk F) x=.val u:=aG;have eS:=ZY H (λy aE=>by subst aE;simp[Op.operands]) ab;have gB:=ZY H (λy aE=>by subst aE;simp[Op.operands]) aj;unfold H7 at h;split at h
     ·rename_i sa sY sz e lb Ai cZ av cn dr lq;cases cn;cases dr;cases lq;obtain⟨aF,he,h⟩:=cp h;have bc:Rc aF a l cS=some v:=h;unfold Rc at bc;split at bc
      ·have el:lo.map (dy (dk F))=none:=by
        rcases eS with⟨el,_⟩ | ⟨_,_,_,el⟩;·exact el
        ·cases el
       have o4:hi.map (dy (dk F))=none:=by
        rcases gB with⟨o4,_⟩ | ⟨_,_,_,o4⟩;·exact o4
        ·cases o4
       have e5:∃ q n c,u=.slice q n c/\aU D v u:=by
        split at bc;·cases bc;exact⟨_,_,_,a8.Cu,a8⟩
        ·cases bc;obtain⟨q,_,rfl⟩:=a8.sX;exact⟨_,_,_,rfl,a8⟩
        ·cases bc;obtain⟨q,_,_,rfl⟩:=a8.vg;exact⟨_,_,_,rfl,a8⟩
        ·cases bc;obtain⟨q,c,rfl⟩:=a8.L1;exact⟨_,_,_,rfl,a8⟩
        ·cases bc
       obtain⟨q,n,c,rfl,ah⟩:=e5;simp only[cG,av,ej,he,el,o4,uv];exact k _ (.val ah)
      ·obtain⟨q,n,c,rfl,gy,gE,qC,ah⟩:=alr bc a8;simp only[cG,av,ej,he,uv];rcases eS with⟨el,rfl⟩ | ⟨gD,Io,el,rfl⟩<;>rcases gB with⟨o4,rfl⟩ | ⟨alz,E6,o4,rfl⟩<;>simp only[el,o4]
       ·rename_i bt;exact(bt rfl rfl).elim
       ·simp only[ur,kk]at gy gE ah;refine⟨0,E6,rfl,rfl,dD _,gE,k _ (.val ?_)⟩;simp only[zf,KW]at ah;have db:(if c=0 then q else q.map λx=>x.add 0)=q:=by
         split;·rfl
         ·cases q with
          |none=>rfl| some q=>simp[Addr.add]
        rw[db]at ah;exact ah
       ·simp only[ur,kk]at gy gE ah;exact⟨Io,n,rfl,rfl,gy,ca _,k _ (.val ah)⟩
       ·simp only[ur,kk]at gy gE ah;exact⟨Io,E6,rfl,rfl,gy,gE,k _ (.val ah)⟩
     ·rename_i sa sY sz str Ai cZ av cn dr lq;cases cn;cases dr;cases lq;rw[a8.str]at ej;have bc:Rd str l cS=some v:=h;unfold Rd at bc;split at bc
      ·have el:lo.map (dy (dk F))=none:=by
        rcases eS with⟨el,_⟩ | ⟨_,_,_,el⟩;·exact el
        ·cases el
       have o4:hi.map (dy (dk F))=none:=by
        rcases gB with⟨o4,_⟩ | ⟨_,_,_,o4⟩;·exact o4
        ·cases o4
       cases bc;simp only[cG,av,ej,el,o4];exact k _ (.val (by simp only[aU]))
      ·obtain⟨ag,bc⟩:=fW bc;cases bc;rw[cz]at ag;have b1:=bJ ag.1;have bW:=bJ ag.2;have df:(⟨str.toArray⟩:ByteArray).size=str.length:=by simp[ByteArray.size]
       simp only[cG,av,ej];rcases eS with⟨el,rfl⟩ | ⟨gD,Io,el,rfl⟩<;>rcases gB with⟨o4,rfl⟩ | ⟨alz,E6,o4,rfl⟩<;>simp only[el,o4]
       ·rename_i bt;exact(bt rfl rfl).elim
       ·simp only[ur,kk]at b1 bW;exact⟨0,E6,rfl,rfl,dD _,by rw[df];exact bW,k _ (.val (by simp only[aU,ur,kk,RR]))⟩
       ·simp only[ur,kk]at b1 bW;exact⟨Io,str.length,rfl,by rw[df];rfl,b1,by rw[df];exact ca _,k _ (.val (by simp only[aU,ur,kk,RR,df]))⟩
       ·simp only[ur,kk]at b1 bW;exact⟨Io,E6,rfl,rfl,b1,by rw[df];exact bW,k _ (.val (by simp only[aU,ur,kk,RR]))⟩
     ·cases h
 ·
  rename_i x i;unfold Y9 at h;split at h;·rename_i vs aa;obtain⟨u,aG,a8⟩:=H.bE (x:=x) (by simp[Op.operands]) aa;obtain⟨us,fE,rfl⟩:=a8.RG;rw[Ae]at h;obtain⟨w,hw,ah⟩:=fE.get h;have ej:dy (dk F) x=.val (.tuple us.toArray):=aG;simp only[cG,ej,hw];exact k _ (.val ah)
  ·cases h
 ·
  rename_i s d x;unfold Y' at h;split at h;·rename_i gh eg n ar ak aa;cases h;obtain⟨u,aG,a8⟩:=H.bE (x:=x) (by simp[Op.operands]) aa;rw[a8.int]at aG;have ej:dy (dk F) x=.val (.int eg n):=aG;simp only[cG,ar,ak,ej];exact⟨_,rfl,k _ (.val (by simp only[aU];rw[Ac]))⟩
  ·cases h
 ·
  rename_i b args fK;exact alu aO h (by simpa[Op.operands,Call.operands]using H) k
 ·cases h
end
def bP.set(D:bP)(id:Nat)(a:Loc):bP:=λi=>if i=id then some a else D i
def bP.pU(D:bP)(id:Nat)(a:Loc):(D.set id a) id=some a:=by simp[bP.set]
def bP.le_refl(D:bP):D.le D:=λ_ _ h=>h
def bP.le_trans(h:D.le bC)(k:bC.le Mb):D.le Mb:=λi a e=>k _ _ (h _ _ e)
def bP.Aj{id:Nat}(a:Loc)(h:D id=none):D.le (D.set id a):=λi b ag=>by
 unfold bP.set;split
 ·rename_i e;subst e;rw[h]at ag;cases ag
 ·exact ag
def bP.ext(D bC:bP)(n:Nat):Prop:=∀ i,i<n->bC i=D i
def bP.o5{n:Nat}:D.ext D n:=λ_ _=>rfl
def bP.E7{n:Nat}{a:Loc}:D.ext (D.set n a) n:=λi hi=>by unfold bP.set;rw[bR (by omega)]
section
variable{Y:gN}{D bC:bP}{m:bp}{I I':aJ}{M M':List aD}{R:Type}
def Ij.mono(h:Ij G I)(bw:∀ b o,I b=some o->I' b=some o):Ij G I':=λg cs au=>by obtain⟨arr,T,f,aa,ab⟩:=h g cs au;exact⟨arr,T,f,bw _ _ aa,ab⟩
def c9.le(h:c9 Y D m I M)(cW:D.ext bC m.n):D.le bC:=λi a a4=>by rw[cW i (h.jS _ _ a4)];exact a4
def c9.step(h:c9 Y D m I M){a:Loc}(av:∀ id e,bq.get id=some e->(id=j/\db=e)\/(id≠j/\m.t.get id=some e))(ai:bC j=some a)(bm:D.le bC)(cW:∀ i,i≠j->bC i=D i)(alA:∀ id a,bC id=some a->id<hS)(bw:∀ b o,I b=some o->I' b=some o)(ny:∀ id e bO,id≠j->m.t.get id=some e->D id=some bO->∀ x∈M,x.num=bO.b->x∈M')
  (he:lC bC Y.E M' a db) (KT:∀ id e bO,id≠j->m.t.get id=some e->D id=some bO->bO.b≠a.b):c9 Y bC ⟨bq,hS⟩ I' M' where
 iU id e cC au aa:=by
  rcases av id e au with⟨aG,a7⟩ | ⟨bt,au⟩;·subst aG;subst a7;rw[ai]at aa;cases aa;exact he
  ·rw[cW id bt]at aa;exact(h.iU id e cC au aa).mono bm λx ad aB=>ny id e cC bt au aa x ad aB
 inj id iV e cX cC dQ au kq aa ab ag:=by
  rcases av id e au with⟨aG,a7⟩ | ⟨bt,au⟩
  ·rcases av iV cX kq with⟨cn,dr⟩ | ⟨Bf,kq⟩
   ·rw[aG,cn]
   ·rw[cW iV Bf]at ab;subst aG;rw[ai]at aa;cases aa;exact(KT iV cX dQ Bf kq ab ag.symm).elim
  ·rw[cW id bt]at aa;rcases av iV cX kq with⟨cn,dr⟩ | ⟨Bf,kq⟩
   ·subst cn;rw[ai]at ab;cases ab;exact(KT id e cC bt au aa ag).elim
   ·rw[cW iV Bf]at ab;exact h.inj id iV e cX cC dQ au kq aa ab ag
 jS:=alA
 qR:=h.qR.mono bw
def c9.fresh(h:c9 Y D m I M):D m.n=none:=by
 cases cW:D m.n with
 |none=>rfl| some a=>exact absurd (h.jS _ _ cW) (Nat.lt_irrefl _)
def c9.aq(h:c9 Y D m I M){id:Nat}{e:fG}{a:Loc}(au:m.t.get id=some e)(a4:D id=some a):∃ x∈M,x.num=a.b:=by
 cases h.iU id e a au a4 with
 |cells arr az aa=>exact⟨_,aa,rfl⟩| map l c aa=>exact⟨_,aa,rfl⟩| loop L aa=>exact⟨_,aa,rfl⟩| done L aa=>exact⟨_,aa,rfl⟩
def c9.new(h:c9 Y D m I M){a:Loc}{o:Obj}(av:∀ id e,bq.get id=some e->(id=m.n/\some db=some e)\/(id≠m.n/\m.t.get id=some e))(aA:∀ x∈M,x.num≠a.b)
  (he:lC (D.set m.n a) Y.E (⟨a.b,o⟩::M) a db):c9 Y (D.set m.n a) ⟨bq,m.n+1⟩ I (⟨a.b,o⟩::M):=
 h.step (λid e au=>(av id e au).imp (λh=>⟨h.1,o3 h.2⟩) λh=>h) (D.pU _ _) (bP.Aj a h.fresh) (λi hi=>by unfold bP.set;rw[bR hi])
  (λid b ag=>by
   unfold bP.set at ag;split at ag;·omega
   ·have:=h.jS _ _ ag;omega)
  (λ_ _ h=>h) (λ_ _ _ _ _ _ x ad _=>nQ _ ad) he
  (λid e bO _ au Cv ag=>by
   obtain⟨x,ad,aB⟩:=h.aq au Cv;exact aA x ad (aB.trans ag))
def lC.new{l:List ap}{vs aT:List Value}{T c:Nat}{b:Nat}{cs:bf ap}(nx:∀ j x,cs.get j=some x->(0<=j/\l[j-0]?=some x)\/((j<0\/0+l.length<=j)/\(bf.nil:bf ap).get j=some x))(ay:bM D l vs)
  (ae:∀ i,Y.E T=some i->(vs++aT).length=c*i.size) (an:c<=maxLen):lC D Y.E (⟨b,.cells (vs++aT).toArray T (0,0)⟩::M) ⟨b,0,c⟩ (.cells cs T l.length):=by
 refine .cells (vs++aT).toArray rfl (by simp) (by simp[ay.len]) (λi v hi au=>?_) (λi hi=>by simpa using ae i hi) an;rcases nx i v au with⟨_,aa⟩ | ⟨_,aa⟩
 ·obtain⟨x,ab,aj⟩:=ay.get (i:=i) (by simpa using aa);have aX:=(ia.1 ab).1;exact⟨x,by simp only[c8,Bu];rw[rj aX];exact ab,aj⟩
 ·cases aa
def Ip{e:fG}{K:Nat->bp->Option R}{r:R}(h:Co m e K=some r):∃ bq,(∀ id cX,bq.get id=some cX->(id=m.n/\some e=some cX)\/(id≠m.n/\m.t.get id=some cX))/\K m.n ⟨bq,m.n+1⟩=some r:=by unfold Co at h;rw[RC]at h;obtain⟨bq,aa,ab⟩:=bf.o1 (some e) m.t m.n;rw[aa]at h;exact⟨bq,ab,h⟩
def RU{l:List ap}{T:Nat}{K:Nat->bp->Option R}{r:R}(h:ve m l T K=some r):∃ m',K m.n m'=some r/\m'.n=m.n+1 /\
  ∀ {D:bP} {I:aJ} {M:List aD} {vs:List Value} (aT:List Value) {b c:Nat},c9 Y D m I M->(∀ x∈M,x.num≠b)->bM D l vs->(∀ i,Y.E T=some i->(vs++aT).length=c*i.size)->c<=maxLen ->
   c9 Y (D.set m.n ⟨b,0,c⟩) m' I (⟨b,.cells (vs++aT).toArray T (0,0)⟩::M):=by
 unfold ve at h;obtain⟨cs,aa,ab⟩:=bf.yl l (.nil:bf ap) 0;rw[aa]at h;obtain⟨bq,aj,aI⟩:=Ip h;refine⟨_,aI,rfl,fun {D I M vs} aT {b c} hm aA ay ae an=>?_⟩;exact hm.new (a:=⟨b,0,c⟩) aj aA (.new ab (ay.mono (bP.Aj _ hm.fresh)) ae an)
end
def alB(z:List Value)(n:Nat):rowOf z (z.length+n)=rowOf z z.length++rowOf z n:=by unfold rowOf;rw[List.range_add,cM,gA];congr 1;apply fR;intro i _;simp[Nat.add_mod_left]
def alC(z:List Value):rowOf z z.length=z:=by
 unfold rowOf;apply mT
 ·simp
 ·intro i aa ab;simp only[f',u5,QE ab];simp[ab]
def RV(z:List Value):∀ n,rowOf z (n*z.length)=(List.replicate n z).flatten
 |0=>by simp[rowOf]
 |n+1=>by rw[Nat.succ_mul,Dv,alB,alC,RV z n,Hk,PQ]
def ZZ(place:Nat->Option (Nat×Nat)):∀ (vs:List (Nat×Value)) (cs r:List Value),tg place cs vs=some r->r.length=cs.length
 |[],cs,r,h=>by simp only[tg]at h;cases h;rfl
 |(i,v)::vs,cs,r,h=>by
  simp only[tg]at h;split at h;·cases h
  ·rename_i off size aC;cases ag:(Nat.beq v.cells.size size&&Nat.ble (off+size) cs.length)with
   |false=>rw[ag]at h;cases h| true=>rw[ag]at h;simp only[b5]at h;rw[ZZ place vs _ _ h];rw[cz]at ag;have aa:=dP ag.1;have ab:=bJ ag.2;simp[cm];omega
def Ak(dst:Option Nat)(u:Value)(F dm:Fr):Prop:=(∀ d,dst=some d->dm d=.val u)/\∀ (D:bP) t v,dst≠some t->gp D (F t) v->gp D (dm t) v
def Ak.put(dst:Option Nat)(u:Value)(F:Fr):Ak dst u F (put dst (.val u) F):=by
 constructor
 ·rintro d rfl;simp[Go.V.put,fZ]
 ·intro D t v bt h;cases dst with
  |none=>exact h| some d=>have:t≠d:=λe=>bt (by rw[e]);simp only[Go.V.put,fZ,hs this,b'];exact h
def Ak.qd(d:Nat)(u:Value)(F:Fr):Ak (some d) u F (fZ (qd F d) d (.val u)):=by
 constructor
 ·rintro _⟨⟩;simp[fZ]
 ·intro D t v bt h;have:t≠d:=λe=>bt (by rw[e]);simp only[fZ,hs this,b'];unfold Go.V.qd;rcases h with⟨alD,e,h⟩ | ⟨q,e,h⟩
  ·rw[e];exact .inl ⟨alD,rfl,h⟩
  ·rw[h];exact .inr ⟨q,e,rfl⟩
section
variable{X:cU}{G:GT}{pr:lW}{D:bP}{m:bp}{F:Fr}{al:bf ap}{C:dC}{I:aJ}{M:List aD}{K:gi}{o:Oper}
def Z0(aO:cT X.P X.E)(ko:∀ d,d<X.n->X.gC.contains d=true)(ak:∀ d,o.dst=some d->d<X.n){l:List ap}{T c:Nat}{mk:Nat->ap}(h:Cq X.E o al=some (l,T,c,mk))(Iq:o.dst.isSome=true)(H:jl D F al o.op.operands.toList)
  (k:∀ b vs u dm C',I b=none->(∀ x∈M,x.num≠b)->bM D l vs->(∀ i,X.E T=some i->vs.length=c*i.size)->c<=maxLen->(∀ (bC:bP) id,bC id=some ⟨b,0,c⟩->aU bC (mk id) u)->Ak o.dst u F dm ->
   K dm C' I (⟨b,.cells vs.toArray T (0,0)⟩::M)):gW X o F C I M K:=by
 obtain⟨dst,op,ty,pos,after,guard⟩:=o;cases dst with
 |none=>cases Iq
 |some d=>
  have rq:X.gC.contains d=true:=ko d (ak d rfl);have Z1:∀ (b c:Nat) (bC:bP) id,bC id=some ⟨b,0,c⟩->aU bC (.p id 0) (.pointer (some ⟨b,0,none⟩)):=λb c bC id lY=>by simp only[aU];exact⟨_,lY,rfl⟩
  unfold Cq at h;simp only at h H;split at h
  ·rename_i t x;unfold Zh at h;obtain⟨i,hi,h⟩:=cp h;obtain⟨v,ah,h⟩:=cp h;obtain⟨ag,h⟩:=fW h;cases h;obtain⟨u,aG,a8⟩:=H.bE (x:=x) (by simp[Op.operands]) ah;have an:=a8.cells;simp only[gW,aG,rq,b5];refine⟨λb aa ab=>?_⟩;have:=k b u.cells.toList (.pointer (some ⟨b,0,none⟩)) _ (jt C d none) aa ab an (λgU cZ=>?_) (by decide) (Z1 b 1) (.qd d _ F)
   ·simpa using this
   ·rw[hi]at cZ;cases cZ;rw[an.len,oD];exact dP ag
  ·rename_i t;unfold Zi at h;obtain⟨i,hi,h⟩:=cp h;obtain⟨z,bb,h⟩:=cp h;cases h;simp only[gW,hi,rq,b5];refine⟨λb aa ab=>?_⟩;exact k b i.zero (.pointer (some ⟨b,0,none⟩)) _ (jt C d none) aa ab (.EZ bb) (λgU cZ=>by rw[hi]at cZ;cases cZ;rw[(aO _ _ hi).len,oD]) (by decide) (Z1 b 1) (.qd d _ F)
  ·rename_i t len parts;unfold Zj at h;split at h
   ·rename_i sa sY sz e vs av aC;obtain⟨aF,he,h⟩:=cp h;obtain⟨z,bb,h⟩:=cp h;obtain⟨us,aG,a8⟩:=H.parts (l:=parts.toList) (by intro y aE;simpa[Op.operands]using aE) aC;simp only[gW,av,aG,he];have xX:=(aO _ _ he).len;cases ag:(Nat.ble (len*aF.size) 16777216&&Nat.blt 0 (len*aF.size))with
    |true=>
     have ju:(Nat.ble (Nat.mul len aF.size) 16777216&&Nat.blt 0 (Nat.mul len aF.size))=true:=ag;rw[kE,ju]at h;simp only[b5]at h |-;obtain⟨cs,aj,aI⟩:=cp h;have dW:some (cs,e,len,λid=>ap.sl id 0 len len)=some (l,T,c,mk):=aI;cases dW;have B7:bM D (Cp c z) (rowOf aF.zero (c*aF.size)):=by rw[<-xX,RV];exact(bM.EZ bb).G7 c
     obtain⟨a0,bB,b4⟩:=L5 aj B7 a8;rw[bB];refine⟨λb aa ab=>?_⟩;have c2:a0.length=c*aF.size:=by rw[ZZ _ _ _ _ bB];simp[rowOf]
     rw[cz]at ag;have ho:=bJ ag.1;have gY:0<c*aF.size:=bJ ag.2;exact k b a0 (.slice (some ⟨b,0,none⟩) c c) _ C aa ab b4 (λgU cZ=>by rw[he]at cZ;cases cZ;exact c2)
      (by
       have ef:0<aF.size:=Nat.pos_of_mul_pos_left gY;have:c<=c*aF.size:=Nat.le_mul_of_pos_right _ ef;simp only[maxLen];omega)
      (λbC id lY=>by simp only[aU];exact⟨_,lY,rfl⟩) (.put _ _ F)
    |false=>
     have ju:(Nat.ble (Nat.mul len aF.size) 16777216&&Nat.blt 0 (Nat.mul len aF.size))=false:=ag;rw[kE,ju]at h;simp only[b']at h |-;obtain⟨an,h⟩:=fW h;cases h;rw[cz]at an;have aj:=dP an.1;subst aj;have aI:vs=[]:=by simpa using an.2
     subst aI;cases a8;simp only;refine⟨λb aa ab=>?_⟩;exact k b [] (.slice (some ⟨b,0,none⟩) 0 0) _ C aa ab .nil (λgU cZ=>by simp) (by decide) (λbC id lY=>by simp only[aU];exact⟨_,lY,rfl⟩) (.put _ _ F)
   ·cases h
  ·rename_i t ev c';unfold Zk at h;split at h
   ·rename_i sa sY sz e hf avq av aa ab;obtain⟨aF,he,h⟩:=cp h;obtain⟨n,aB,h⟩:=cp h;obtain⟨q,aR,h⟩:=cp h;obtain⟨z,bb,h⟩:=cp h;obtain⟨ag,h⟩:=fW h;cases h;obtain⟨eg,rfl⟩:=E5 aB;obtain⟨cy,rfl⟩:=E5 aR;obtain⟨wO,aG,a8⟩:=H.bE (x:=ev) (by simp[Op.operands]) aa;obtain⟨r5,a7,ba⟩:=H.bE (x:=c') (by simp[Op.operands]) ab;rw[a8.int]at aG;rw[ba.int]at a7;simp only[cz]at ag;simp only[gW,av,aG,a7,he];refine⟨n,c,rfl,rfl,bJ ag.1,bJ ag.2.1,bJ ag.2.2,⟨λb aj aI=>?_⟩⟩;have xX:=(aO _ _ he).len;have B7:bM D (Cp c z) (rowOf aF.zero (c*aF.size)):=by rw[<-xX,RV];exact(bM.EZ bb).G7 c
    exact k b _ (.slice (some ⟨b,0,none⟩) n c) _ C aj aI B7 (λgU cZ=>by rw[he]at cZ;cases cZ;simp[rowOf]) (bJ ag.2.2) (λbC id lY=>by simp only[aU];exact⟨_,lY,rfl⟩) (.put _ _ F)
   ·cases h
  ·cases h
end
def Z2{vs:List Value}{i:Nat}(h:off+vs.length<=cs.length):(cm cs off vs)[i]?=if off<=i/\i<off+vs.length then vs[i-off]? else cs[i]?:=by
 unfold cm;by_cases aa:i<off
 ·rw[bR (by omega),rj (by simp;omega),rj (by simp;omega),k7,bN aa]
 ·by_cases ab:i<off+vs.length
  ·rw[bN ⟨by omega,ab⟩,rj (by simp;omega),m3 (by simp;omega)];simp;congr 1;omega
  ·rw[bR (by omega),m3 (by simp;omega),nX];congr 1;simp;omega
def RW{vs:List Value}(h:off+vs.length<=cs.length):(cm cs off vs).length=cs.length:=by simp[cm];omega
section
variable{Y:gN}{D:bP}{m:bp}{I:aJ}{M:List aD}{R:Type}
def RX{x:ap}{l:List ap}{K:bp->Option R}{r:R}(h:yj m x l K=some r):∃ m',K m'=some r/\m'.n=m.n/\(∀ id,m'.t.get id≠none->m.t.get id≠none\/True) /\
  ∀ {D:bP} {I:aJ} {M:List aD} {u:Value} {vs:List Value},c9 Y D m I M->aU D x u->bM D l vs ->
   ∃ (g off:Nat) (a9 post:List aD) (arr:Array Value) (T:Nat),u=.pointer (some ⟨g,off,none⟩)/\M=a9++⟨g,.cells arr T (0,0)⟩::post/\off+vs.length<=arr.size/\gv vs=true /\ (∃ id e a,m.t.get id=some e/\D id=some a/\a.b=g) /\
    c9 Y D m' I (a9++⟨g,.cells (cm arr.toList off vs).toArray T (0,0)⟩::post):=by
 unfold yj at h;split at h
 ·rename_i id off;split at h
  ·rename_i cs T fH au;cases ag:(Nat.ble (Nat.add off l.length) fH&&l.all ap.one)with
   |false=>rw[ag]at h;cases h
   |true=>
    rw[ag]at h;simp only[b5]at h;rw[cz]at ag;have Al:off+l.length<=fH:=bJ ag.1;obtain⟨cs',aa,ab⟩:=bf.yl l cs off;rw[aa]at h;obtain⟨bq,aj,aI⟩:=bf.o1 (some (fG.cells cs' T fH)) m.t id;rw[aj]at h;refine⟨_,h,rfl,λ_ _=>.inr trivial,fun {D I M u vs} hm ad ay=>?_⟩;obtain⟨a,a4,rfl⟩:=ad.ptr;have he:=hm.iU _ _ _ au a4;obtain⟨arr,aH,a',df,an,ae,iu⟩:=he;have c2:=ay.len;obtain⟨a9,post,dL⟩:=vi a';have jv:off+vs.length<=arr.size:=by omega
    refine⟨a.b,off,a9,post,arr,T,by rw[aH,c8],dL,jv,ay.one ag.2,⟨id,_,a,au,a4,rfl⟩,?_⟩;have e7:∀ x∈M,x.num≠a.b->x∈a9++⟨a.b,.cells (cm arr.toList off vs).toArray T (0,0)⟩::post:=λx ad aB=>by
     rw[dL]at ad;rcases cB.1 ad with ad | ad;·exact cB.2 (.inl ad)
     ·rcases ec.1 ad with rfl | ad
      ·exact(aB rfl).elim
      ·exact cB.2 (.inr (nQ _ ad))
    refine hm.step (λi e hi=>(aI i e hi).imp (λq=>⟨q.1,o3 q.2⟩) λq=>q) a4 (bP.le_refl D) (λ_ _=>rfl) hm.jS (λ_ _ h=>h) (λi e bO bt hi oW x ad aB=>e7 x ad ?_) ?_ ?_;·rw[aB];exact λag=>bt (hm.inj _ _ _ _ _ _ hi au oW a4 ag)
    ·have Am:(cm arr.toList off vs).length=arr.size:=by rw[RW (by simpa using jv)];simp
     refine .cells (cm arr.toList off vs).toArray aH (by simp) (by simp[Am];exact df) (λi v hi vj=>?_) (λi hi=>by simp[Am];exact ae i hi) iu;rw[aH,c8];simp only[Bu];rw[Z2 (by simpa using jv)];rcases ab i v vj with⟨a8,ba⟩ | ⟨a8,ba⟩;·have aX:=(ia.1 ba).1;rw[bN ⟨a8,by omega⟩];exact ay.get ba
     ·rw[bR (by omega)];have:=an i v hi ba;rw[aH,c8]at this;simpa using this
    ·intro i e bO bt hi oW ag;exact bt (hm.inj _ _ _ _ _ _ hi au oW a4 ag)
  ·cases h
 ·cases h
def RY:∀ {l:List ap} {bK:List UInt8} {vs:List Value},EQ l=some bK->bM D l vs->vs=bK.map (λb=>.int .u8 b.toNat)
 |[],bK,vs,h,ay=>by simp only[EQ]at h;cases h;exact ay.nP
 |v::l,bK,vs,h,ay=>by
  unfold EQ at h;split at h;·rename_i e;cases e
  ·rename_i n ev e;cases e;cases ag:Nat.ble n 255 with
   |false=>rw[ag]at h;cases h
   |true=>
    rw[ag]at h;simp only[b5]at h;split at h;·rename_i r af;cases h;obtain⟨x,xs,aa,ab,rfl⟩:=ay.kF;have aB:=bJ ag;rw[RY af ab,aa.int];simp only[b0,xU,and_true,Value.int.injEq,true_and];rw[UInt8.toNat_ofNat_of_lt' (show n<256 by omega)];rfl
    ·cases h
  ·cases h
inductive An:TypeDesc->ap->Prop
 |int{k n}:An (.int k) (.i k n)| str {l}:An .string (.s l)
def Z3(aO:cT P E){k:Nat}{y:ap}(h:LO (E k) y=true):∃ d,P.underlying k=some d/\An d y:=by
 unfold LO at h;split at h
 ·rename_i gh eZ n ae;have:=IntKind.DB h;subst this;obtain⟨d,hu,ak⟩:=(aO _ _ ae).fo;refine⟨d,hu,?_⟩;have:d=.int gh:=by cases d<;>simp_all[fm]
  subst this;exact .int
 ·rename_i l ae;obtain⟨d,hu,ak⟩:=(aO _ _ ae).fo;refine⟨d,hu,?_⟩;have:d=.string:=by cases d<;>simp_all[fm]
  subst this;exact .str
 ·cases h
def An.isKey{d:TypeDesc}{y:ap}(h:An d y)(aE:aU D y u):MapKept.IsKey d u:=by
 cases h with
 |int=>rw[aE.int];rfl| str=>rw[aE.str];trivial
def Z4(a b:ByteArray):(a == b)=decide (a=b):=by rw[sm,MapKept.bytes_beq];simp
def E8{d:TypeDesc}{y x:ap}{w:Value}{r:Bool}(h:An d y)(aE:aU D y u)(ad:aU D x w)(he:EL y x=some r):Instr.sameNow d u w=some r:=by
 cases h with
 | @int k n=>
  rw[aE.int];unfold EL at he;split at he;·rename_i e;cases e
  ·rename_i eg a cy b e;cases e;obtain⟨aa,ab⟩:=fW he;have:=IntKind.DB aa;subst this;cases ab;rw[ad.int];simp only[Instr.sameNow,pk,Ct];congr 1
  ·rename_i e;cases e
  ·cases he
 | @str l=>
  rw[aE.str];unfold EL at he;split at he;·rename_i e;cases e
  ·rename_i e;cases e
  ·rename_i a b e;cases e;cases he;rw[ad.str];simp only[Instr.sameNow];rw[Z4,L6,EY]
  ·cases he
def Z5{d:TypeDesc}{y:ap}{u:Value}(h:An d y)(aE:aU D y u):∀ {es:List (ap×ap)} {l:List MapEntry} {r:Option ap} (i:Nat),qT D es l->H9 y es=some r ->
  match r with
  |none=>Instr.findNow d u l i=some none| some v=>∃ j w,Instr.findNow d u l i=some (some (j,w))/\aU D v w
 |[],_,r,i,.nil,ay=>by simp only[H9]at ay;cases ay;rfl
 |(x,v)::es,_,r,i,.cons (e:=e) (l:=l) ae ah t,ay=>by
  simp only[H9]at ay;split at ay;·rename_i he;cases ay;refine⟨i,e.val,?_,ah⟩;simp only[Instr.findNow,E8 h aE ae he]
  ·rename_i he;have aL:=Z5 h aE (i+1) t ay;simp only[Instr.findNow,E8 h aE ae he];exact aL
  ·cases ay
def Z6{d:TypeDesc}{y v:ap}{u w:Value}(h:An d y)(aE:aU D y u)(ah:aU D v w):∀ {es vk:List (ap×ap)} {l:List MapEntry} (i:Nat),qT D es l->H' y v es=some vk -> (Instr.findNow d u l i=some none/\∀ b,qT D vk (l++[{ key:=u,val:=w,born:=b }])) \/ ∃ j e,Instr.findNow d u l i=some (some (i+j,e.val))/\l[j]?=some e/\Instr.sameNow d u e.key=some true/\qT D vk (l.modify j λe=>{ e with key:=u,val:=w })
 |[],vk,_,i,.nil,ay=>by simp only[H']at ay;cases ay;exact .inl ⟨rfl,λb=>.cons aE ah .nil⟩
 |(x,r4)::es,vk,_,i,.cons (e:=e) (l:=l) ae j2 t,ay=>by
  simp only[H']at ay;split at ay
  ·rename_i he;cases ay;refine .inr ⟨0,e,?_,rfl,E8 h aE ae he,?_⟩
   ·simp only[Instr.findNow,E8 h aE ae he,qb]
   ·simp only[List.modify_zero_cons];exact .cons aE ah t
  ·rename_i he;split at ay
   ·rename_i r af;cases ay;rcases Z6 h aE ah (i+1) t af with⟨aa,ab⟩ | ⟨j,cX,aa,ab,aj,aI⟩
    ·refine .inl ⟨?_,λb=>.cons ae j2 (ab b)⟩;simp only[Instr.findNow,E8 h aE ae he];exact aa
    ·refine .inr ⟨j+1,cX,?_,by simpa using ab,aj,?_⟩
     ·simp only[Instr.findNow,E8 h aE ae he];rw[aa];congr 3;omega
     ·simp only[List.modify_succ_cons];exact .cons ae j2 aI
   ·cases ay
  ·cases ay
end
section
variable{P:Program}{w:World}
def alE{k:Nat}(av:P.underlying t=some (.map k e)){d:TypeDesc}(ae:P.underlying k=some d)(wP:MapKept.IsKey d u){l:List MapEntry}(au:w.heap[g]?=some (.map l.toArray clock))
  {q:Option (Nat×Value)} (aA:Instr.findNow d u l 0=some q) {inf:TypeInfo} {z:Value} (hi:P.info? e=some inf) (bb:inf.zero=some z) (ok:Bool) :
  (Instr.lookup t (.map (some g)) u ok).run P w=.ok (bif ok then .tuple #[(q.map (·.2)).getD z,.bool q.isSome]else(q.map (·.2)).getD z) w:=by
 have an:(Instr.checkKey l.toArray.isEmpty 10000 k u).run P w=.ok () w:=DY ae wP _ 9999;have u4:(Instr.findKey k u l).run P w=.ok q w:=DZ ae aA;have Mc:(zeroValue e).run P w=.ok z w:=by simp[zeroValue,typeInfo,hi,bb]
 unfold Instr.lookup;simp only[ck,run_underlying av,bV,DW au,c3,an,u4];cases q with
 |none=>cases ok<;>simp[Mc]
 |some p=>cases ok<;>simp
def alF{k:Nat}(av:P.underlying t=some (.map k e)){d:TypeDesc}(ae:P.underlying k=some d){v:Value}(wP:MapKept.IsKey d u){l:List MapEntry}(au:w.heap[g]?=some (.map l.toArray clock))
  (aA:Instr.findNow d u l 0=some none):(Instr.mapUpdate t (.map (some g)) u v).run P w=.ok () { w with heap:=w.heap.setIfInBounds g (.map (l++[({ key:=u,val:=v,born:=clock }:MapEntry)]).toArray (clock+1)) }:=by
 have an:(Instr.checkKey false 10000 k u).run P w=.ok () w:=DY ae wP _ 9999;have u4:(Instr.findKey k u l).run P w=.ok none w:=DZ ae aA;unfold Instr.mapUpdate;simp only[ck,run_underlying av,bV,DW au,an,u4,Pe _ au];congr 3;simp
def alG{k:Nat}(av:P.underlying t=some (.map k e)){d:TypeDesc}(ae:P.underlying k=some d){v:Value}(wP:MapKept.IsKey d u){l:List MapEntry}(au:w.heap[g]?=some (.map l.toArray clock))
 {cX:MapEntry} (aA:Instr.findNow d u l 0=some (some (j,cX.val))) (ai:l[j]?=some cX) (ar:cX.key=u) :
  (Instr.mapUpdate t (.map (some g)) u v).run P w=.ok () { w with heap:=w.heap.setIfInBounds g (.map (l.modify j λe=>{ e with key:=u,val:=v }).toArray clock) }:=by
 have an:(Instr.checkKey false 10000 k u).run P w=.ok () w:=DY ae wP _ 9999;have u4:(Instr.findKey k u l).run P w=.ok (some (j,cX.val)) w:=DZ ae aA;have er:(Instr.keyThatStays u u).run P w=.ok u w:=MapKept.run_keyThatStays wP;unfold Instr.mapUpdate;simp only[ck,run_underlying av,bV,DW au,an,u4];simp only[Bu,ai,k9,kk,ar,er,bV,Pe _ au];congr 3;show Obj.map _ _=Obj.map _ _;congr 1;apply gV;simp
end
section
variable{X:cU}{G:GT}{pr:lW}{D:bP}{m m':bp}{F:Fr}{al:bf ap}{C:dC}{I:aJ}{M:List aD}{K:gi}{o:Oper}{v:ap}
def r6(X:cU)(G:GT)(pr:lW)(D:bP)(m:bp)(I:aJ)(M:List aD)(v:ap)(m':bp)(dst:Option Nat)(F:Fr)(C:dC)(K:gi):Prop:=
 ∀ bC u M',D.ext bC m.n->aU bC v u->c9 (dN X G pr) bC m' I M'->K (put dst (.val u) F) C I M'
def alH(aH:o.op=.store t x y)(h:bo o.dst (LM (X.E t) m (dj al x) (dj al y)) (λ_=>none)=some (v,m'))(H:jl D F al o.op.operands.toList)(hm:c9 (dN X G pr) D m I M)
  (k:r6 X G pr D m I M v m' o.dst F C K):gW X o F C I M K:=by
 obtain⟨dst,op,ty,pos,after,guard⟩:=o;simp only at aH;subst aH;cases dst with
 |some d=>cases h
 |none=>
  have aa:LM (X.E t) m (dj al x) (dj al y)=some (v,m'):=h;unfold LM at aa;obtain⟨i,hi,aa⟩:=cp aa;obtain⟨a,ad,aa⟩:=cp aa;obtain⟨b,aE,aa⟩:=cp aa;obtain⟨ag,aa⟩:=fW aa;obtain⟨m2,ab,-,-,aj⟩:=RX (Y:=dN X G pr) aa;cases ab;simp only at H;have Cw:=H x (by simp[Op.operands]) _ ad;have ym:∀ q,a≠.b q:=λq e=>by subst e;cases aa
  obtain⟨u,aG,a8⟩:=Cw.wJ ym;obtain⟨w,a7,ba⟩:=H.bE (x:=y) (by simp[Op.operands]) aE;obtain⟨g,off,a9,post,arr,T,rfl,a',jv,oz,⟨id,e,hc,lY,Ec,au⟩,mD⟩:=aj hm a8 ba.cells;simp only[gW,hi,a7,aG];have df:Nat.beq w.cells.size i.size=true:=by have:=ba.cells.len;rw[zd]at this;rw[this];exact ag
  rw[df];simp only[b5];refine⟨a9,post,arr,T,a',rfl,jv,oz,?_⟩;exact k D (.tuple #[]) _ bP.o5 (by simp only[aU];exact⟨[],.nil,rfl⟩) mD
def Z7(ak:∀ d,o.dst=some d->d<X.n)(bF:∀ c,o.op≠.defer c)
  (h:∀ (β:Nat->Nat) (a:Act) (w:World),cK X β a w F C I M->∃ u w' I' M',(execOp a.eval o).run X.P w=.ok (.value u) w'/\cK X β a w' F C I' M'/\K (put o.dst (.val u) F) C I' M'):bz X o F C I M K:=by
 refine⟨λa w Q ⟨β,aV⟩=>?_⟩;obtain⟨u,w',I',M',aa,ab,aj⟩:=h β a w aV;exact iY bF aa ⟨_,_,_,_,⟨β,ab.put (x:=.val u) ak rfl⟩,aj⟩
def alI(ak:o.dst=none)(bF:∀ c,o.op≠.defer c)
  (h:∀ (β:Nat->Nat) (a:Act) (w:World),cK X β a w F C I M->∃ w' I' M',(execOp a.eval o).run X.P w=.ok .skip w'/\cK X β a w' F C I' M'/\K F C I' M'):bz X o F C I M K:=by
 refine⟨λa w Q ⟨β,aV⟩=>?_⟩;obtain⟨w',I',M',aa,ab,aj⟩:=h β a w aV;refine Dz bF aa ⟨_,_,_,_,⟨β,?_⟩,aj⟩;rw[ak];exact ab
def Z8(aO:cT X.P X.E)(ak:∀ d,o.dst=some d->d<X.n){r:Option Operand}(aH:o.op=.makeMap t r)(h:LN (X.E t) m=some (v,m'))(af:∀ x,r=some x->∃ k n,bE F x=.val (.int k n))(hm:c9 (dN X G pr) D m I M)
  (k:r6 X G pr D m I M v m' o.dst F C K):bz X o F C I M K:=by
 unfold LN at h;split at h
 ·rename_i sa sY sz gh e av;obtain⟨d,fF,fk⟩:=(aO _ _ av).fo;have aa:d=.map gh e:=by cases d<;>simp_all[fm]
  subst aa;obtain⟨bq,ab,aj⟩:=Ip h;cases aj;refine Z7 ak (by rw[aH];simp) fun β a w aV=>?_;refine⟨.map (some w.heap.size),w.alloc (.map #[] 0),I,⟨w.heap.size,.map #[] 0⟩::M,?_,aV.nY _,?_⟩
  ·unfold execOp;cases r with
   |none=>simp[aH,Instr.makeMap]| some x=>obtain⟨eg,kX,ad⟩:=af x rfl;have PJ:=dd aV.al ad;simp[aH,PJ,Instr.makeMap,run_underlying fF,asInt,ox]
  ·have aA:∀ x∈M,x.num≠w.heap.size:=aV.holds.q6;refine k _ _ _ bP.E7 (by simp only[aU];exact⟨_,bP.pU _ _ ⟨w.heap.size,0,0⟩,rfl⟩) (hm.new (a:=⟨w.heap.size,0,0⟩) ab aA ?_);exact .map [] 0 (by simp) .nil
 ·cases h
def lC.Z9{D:bP}{M:List aD}{a:Loc}{es:List (ap×ap)}(h:lC D E M a (.map es)):∃ l clock,(⟨a.b,.map l.toArray clock⟩:aD)∈M/\qT D es l:=by
 cases h with
 |map l clock aa ab=>exact⟨l,clock,aa,ab⟩
def aU.map'{id:Nat}(h:aU D (.m id) u):∃ a,D id=some a/\u=.map (some a.b):=by simpa only[aU]using h
def alJ(aO:cT X.P X.E)(ak:∀ d,o.dst=some d->d<X.n){ok:Bool}(aH:o.op=.lookup t x y ok)(h:Rm X.P X.E t m (dj al x) (dj al y) ok=some (v,m'))(H:jl D F al o.op.operands.toList)
  (hm:c9 (dN X G pr) D m I M) (k:r6 X G pr D m I M v m' o.dst F C K):bz X o F C I M K:=by
 unfold Rm at h;split at h
 ·rename_i sa sY sz gh e id alK av aa ab;obtain⟨wP,h⟩:=fW h;split at h
  ·rename_i es au;obtain⟨r,af,h⟩:=cp h;obtain⟨inf,hi,h⟩:=cp h;obtain⟨z,bb,h⟩:=cp h;obtain⟨tm,Bn,h⟩:=cp h;cases h;obtain⟨d,fF,fk⟩:=(aO _ _ av).fo;have fz:d=.map gh e:=by cases d<;>simp_all[fm]
   subst fz;obtain⟨dc,sP,Cx⟩:=Z3 aO wP;rw[aH]at H;obtain⟨wO,aG,a8⟩:=H.bE (x:=x) (by simp[Op.operands]) aa;obtain⟨r5,a7,ba⟩:=H.bE (x:=y) (by simp[Op.operands]) ab;obtain⟨a,a4,rfl⟩:=a8.map';have he:=hm.iU _ _ _ au a4;obtain⟨l,clock,a',RZ⟩:=he.Z9;have kt:=Z5 Cx ba 0 RZ af;have Mc:aU D tm z:=.of Bn;have fin:∀ {q:Option (Nat×Value)},Instr.findNow dc r5 l 0=some q->(r=none/\q=none\/∃ Ir j w,r=some Ir/\q=some (j,w)/\aU D Ir w)->bz X o F C I M K:=fun {q} aA aR=>by
    refine Z7 ak (by rw[aH];simp) fun β ac w aV=>?_;have fa:=alE (P:=X.P) (w:=w) fF sP (Cx.isKey ba) (aV.holds.m _ a') aA hi bb ok;have ex:=dd aV.al aG;have oJ:=dd aV.al a7;refine⟨bif ok then .tuple #[(q.map (·.2)).getD z,.bool q.isSome]else(q.map (·.2)).getD z,w,I,M,?_,aV,k D _ M bP.o5 ?_ hm⟩;·unfold execOp;simp only[aH,ex,oJ,ck,fa,bV,c3]
    ·unfold Zl;rcases aR with⟨rfl,rfl⟩ | ⟨Ir,j,w',rfl,rfl,ah⟩
     ·cases ok
      ·exact Mc
      ·exact .L3 (.cons Mc (.cons (by simp only[aU];rfl) .nil))
     ·cases ok
      ·exact ah
      ·exact .L3 (.cons ah (.cons (by simp only[aU];rfl) .nil))
   cases r with
   |none=>exact fin kt (.inl ⟨rfl,rfl⟩)| some Ir=>obtain⟨j,w,aA,ah⟩:=kt;exact fin aA (.inr ⟨Ir,j,w,rfl,rfl,ah⟩)
  ·cases h
 ·cases h
def Z'(aO:cT X.P X.E){z:Operand}(aH:o.op=.mapUpdate t x y z\/o.op=.insert t x y z)(h:bo o.dst (Ia X.E t m (dj al x) (dj al y) (dj al z)) (λ_=>none)=some (v,m'))(H:jl D F al o.op.operands.toList)
  (hm:c9 (dN X G pr) D m I M) (k:r6 X G pr D m I M v m' o.dst F C K):bz X o F C I M K:=by
 cases Iq:o.dst with
 |some d=>rw[Iq]at h;cases h
 |none=>
  rw[Iq]at h k;have az:Ia X.E t m (dj al x) (dj al y) (dj al z)=some (v,m'):=h;have vZ:∀ q,q=x\/q=y\/q=z->q∈o.op.operands.toList:=λq aR=>by
   rcases aH with aH | aH<;>rw[aH]<;>simp[Op.operands]<;>exact aR
  unfold Ia at az;split at az
  ·rename_i sa sY sz gh e id alK tm av aa ab aj;obtain⟨wP,az⟩:=fW az;split at az
   ·rename_i es au;obtain⟨vk,kw,az⟩:=cp az;obtain⟨bq,aI,bB⟩:=bf.o1 (some (fG.map vk)) m.t id;have iO:(m.t.nO (some (fG.map vk)) id λt=>some (ap.t [],(⟨t,m.n⟩:bp)))=some (v,m'):=az;rw[aI]at iO;cases iO;obtain⟨d,fF,fk⟩:=(aO _ _ av).fo;have fz:d=.map gh e:=by cases d<;>simp_all[fm]
    subst fz;obtain⟨dc,sP,Cx⟩:=Z3 aO wP;obtain⟨wO,aG,a8⟩:=H.bE (x:=x) (vZ x (.inl rfl)) aa;obtain⟨r5,a7,ba⟩:=H.bE (x:=y) (vZ y (.inr (.inl rfl))) ab;obtain⟨Ao,cn,bQ⟩:=H.bE (x:=z) (vZ z (.inr (.inr rfl))) aj;obtain⟨a,a4,rfl⟩:=a8.map';have he:=hm.iU _ _ _ au a4;obtain⟨l,clock,a',RZ⟩:=he.Z9;have fin:∀ (ev:List MapEntry) (Cy:Nat),qT D vk ev->(∀ w:World,w.heap[a.b]?=some (.map l.toArray clock)->(Instr.mapUpdate t (.map (some a.b)) r5 Ao).run X.P w=.ok () { w with heap:=w.heap.setIfInBounds a.b (.map ev.toArray Cy) }) ->
      bz X o F C I M K:=λev Cy po fa=>by
     obtain⟨a9,post,dL⟩:=vi a';have mE:M.Perm (⟨a.b,.map l.toArray clock⟩::(a9++post)):=by rw[dL];exact mw
     refine alI Iq (by rcases aH with aH | aH<;>rw[aH]<;>simp) fun β ac w iA=>?_;have aV:cK X β ac w F C I (⟨a.b,.map l.toArray clock⟩::(a9++post)):=iA.hW (.perm mE .refl);have t':=iA.holds.m _ a';have ex:=dd aV.al aG;have oJ:=dd aV.al a7;have PK:=dd aV.al cn;have g0:=MapKept.heap_set (o':=Obj.map ev.toArray Cy) t';refine⟨_,I,⟨a.b,.map ev.toArray Cy⟩::(a9++post),?_,aV.swap (w':={ w with heap:=w.heap.setIfInBounds a.b (.map ev.toArray Cy) }) (by simp) g0.1 g0.2 ⟨rfl,rfl⟩,?_⟩
     ·unfold execOp;rcases aH with aH | aH<;>simp only[aH,ex,oJ,PK,ck,fa w t',bV,c3]
     ·have nB:∀ q∈M,q.num≠a.b->q∈(⟨a.b,.map ev.toArray Cy⟩:aD)::(a9++post):=λq aR aB=>by
       rcases ec.1 (mE.mem_iff.1 aR)with rfl | aR;·exact(aB rfl).elim
       ·exact nQ _ aR
      refine k D (.tuple #[]) _ bP.o5 (by simp only[aU];exact⟨[],.nil,rfl⟩) ?_;refine hm.step (λi e hi=>(bB i e hi).imp (λq=>⟨q.1,o3 q.2⟩) λq=>q) a4 (bP.le_refl D) (λ_ _=>rfl) hm.jS (λ_ _ h=>h) (λi e bO bt hi oW q aR aB=>nB q aR ?_) (.map ev Cy (by simp) po) ?_;·rw[aB];exact λag=>bt (hm.inj _ _ _ _ _ _ hi au oW a4 ag)
      ·exact λi e bO bt hi oW ag=>bt (hm.inj _ _ _ _ _ _ hi au oW a4 ag)
    rcases Z6 Cx ba bQ 0 RZ kw with⟨aA,e7⟩ | ⟨j,cX,aA,ai,ar,Lg⟩;·exact fin _ (clock+1) (e7 clock) λw t'=>alF fF sP (Cx.isKey ba) t' aA
    ·rw[c8]at aA;have xZ:cX.key=r5:=by
      cases Cx with
      |int=>
       have:=ba.int;subst this;cases ae:cX.key<;>rw[ae]at ar<;>simp[Instr.sameNow]at ar
       obtain⟨rfl,h⟩:=ar;rw[h]
      |str=>
       have:=ba.str;subst this;cases ae:cX.key<;>rw[ae]at ar<;>simp[Instr.sameNow,Z4]at ar
       rw[ar]
     exact fin _ clock Lg λw t'=>alG fF sP (Cx.isKey ba) t' aA ai xZ
   ·cases az
  ·cases az
end
section
variable{X:cU}{G:GT}{pr:lW}{D:bP}{m m':bp}{F:Fr}{al:bf ap}{C:dC}{I:aJ}{M:List aD}{K:gi}{o:Oper}{v:ap}
def aaa(aO:cT X.P X.E)(ak:∀ d,o.dst=some d->d<X.n){s d e:Nat}(aH:o.op=.convert s d x){dQ bW:Nat}{R0:List Value}(ar:X.E s=some ⟨cC,b1,Ah,.slice e⟩)(fz:X.E d=some ⟨dQ,bW,R0,.string⟩)(ag:EO (X.E e)=true)
  {id off n:Nat} (h:LP G m id off n=some (v,m')) (ad:∃ a c,D id=some a/\bE F x=.val (.slice (some ⟨a.b,a.o+off,none⟩) n c)) (hm:c9 (dN X G pr) D m I M)
  (k:r6 X G pr D m I M v m' o.dst F C K):bz X o F C I M K:=by
 unfold LP at h;obtain⟨a,c,a4,ex⟩:=ad;obtain⟨aS,l,vs,aG,bl,ay,h⟩:=wK (u:=.pointer (some ⟨a.b,a.o+off,none⟩)) hm (by simp only[aU];exact⟨a,a4,rfl⟩) h;cases aG;obtain⟨bK,pF,h⟩:=cp h;cases h;have iL:=RY pF ay;have c2:bK.length=n:=by have:=bl.2;obtain⟨_,_,_,_,_,ab⟩:=this;rw[<-ab,iL];simp
 subst iL;obtain⟨aF,he,kw⟩:∃ aF,X.E e=some aF/\aF.bL=.int .u8:=by
  unfold EO at ag;split at ag;·rename_i h;exact⟨_,h,rfl⟩
  ·cases ag
 refine bz.akC aO aH ak ar rfl he kw fz rfl ex c2 bl ?_;exact k D _ M bP.o5 (by simp only[aU]) hm
def alL(aO:cT X.P X.E)(ak:∀ d,o.dst=some d->d<X.n){s d:Nat}(aH:o.op=.convert s d x)(h:LQ (dN X G pr) m s d (dj al x)=some (v,m'))(H:jl D F al o.op.operands.toList)(hm:c9 (dN X G pr) D m I M)
  (k:r6 X G pr D m I M v m' o.dst F C K):bz X o F C I M K:=by
 unfold LQ at h;rw[aH]at H;split at h
 ·rename_i aa ab aj;obtain⟨ag,h⟩:=fW h;obtain⟨u,aG,a8⟩:=H.bE (x:=x) (by simp[Op.operands]) aj;obtain⟨a,a4,rfl⟩:=a8.sX;exact aaa aO ak aH aa ab ag h ⟨a,_,a4,aG⟩ hm k
 ·rename_i aa ab aj;obtain⟨ag,h⟩:=fW h;obtain⟨u,aG,a8⟩:=H.bE (x:=x) (by simp[Op.operands]) aj;obtain⟨a,a4,_,rfl⟩:=a8.vg;exact aaa aO ak aH aa ab ag h ⟨a,_,a4,aG⟩ hm k
 ·rename_i aa ab aj;obtain⟨ag,h⟩:=fW h;obtain⟨u,aG,a8⟩:=H.bE (x:=x) (by simp[Op.operands]) aj;cases h;simp only[aU]at a8;subst a8;obtain⟨aF,he,kw⟩:∃ aF,X.E _=some aF/\aF.bL=.int .u8:=by
   unfold EO at ag;split at ag;·rename_i h;exact⟨_,h,rfl⟩
   ·cases ag
  refine bz.akD aO aH ak aa rfl he kw ab rfl aG ?_;exact k D _ M bP.o5 (by simp only[aU]) hm
 ·cases h
def aab(q:List UInt8):bM D (q.map λb=>ap.i .u8 (.ofNat b.toNat)) (lk ⟨q.toArray⟩):=by
 unfold lk;simp only
 induction q with
 |nil=>exact .nil| cons b q aL=>exact .cons (by simp only[aU];rfl) aL
def Md{l:List Operand}{a b:ap}(h:oa al l=some [a,b]):∃ x y,l=[x,y]/\dj al x=some a/\dj al y=some b:=by
 match l,h with
 |[],h=>simp[oa]at h
 |[x],h=>
  simp only[oa]at h;split at h;·rename_i aG a7;cases a7;cases h
  ·cases h
 |[x,y],h=>
  simp only[oa]at h;split at h
  ·rename_i aG a7;split at a7
   ·rename_i cn dr;cases dr;cases a7;cases h;exact⟨x,y,rfl,aG,cn⟩
   ·cases a7
  ·cases h
 |x::y::z::l,h=>
  simp only[oa]at h;split at h
  ·rename_i aG a7;split at a7
   ·rename_i cn dr;split at dr
    ·cases dr;cases a7;cases h
    ·cases dr
   ·cases a7
  ·cases h
def c9.sub{M':List aD}(h:c9 (dN X G pr) D m I M)(ar:∀ x∈M,x∈M'):c9 (dN X G pr) D m I M':=
 ⟨λid e a hi a4=>(h.iU id e a hi a4).mono (bP.le_refl D) (λx ad _=>ar x ad),h.inj,h.jS,h.qR⟩
def alM(aO:cT X.P X.E)(ak:∀ d,o.dst=some d->d<X.n)(aH:o.op=.call { callee:=.builtin .copy,args:=args,argTypes:=fK })(h:Ro (dN X G pr) m fK.toList (oa al args.toList)=some (v,m'))
  (H:jl D F al args.toList) (hm:c9 (dN X G pr) D m I M) (k:r6 X G pr D m I M v m' o.dst F C K):bz X o F C I M K:=by
 unfold Ro at h;split at h
 ·rename_i t u id off n c q av ay;split at h
  ·rename_i sa sY sz e oF;obtain⟨aF,he,h⟩:=cp h;obtain⟨ag,h⟩:=fW h;rw[cz]at ag;obtain⟨m2,ab,-,-,aj⟩:=RX (Y:=dN X G pr) h;cases ab;obtain⟨x,y,na,wQ,alN⟩:=Md ay;obtain⟨wO,ad,ba⟩:=H.bE (x:=x) (by rw[na];simp) wQ;obtain⟨r5,aE,ft⟩:=H.bE (x:=y) (by rw[na];simp) alN;obtain⟨a,a4,rfl⟩:=ba.sX;have alO:=ft.str;subst alO;obtain⟨g,JV,a9,post,arr,T,cn,a',jv,oz,⟨iV,cX,hc,lY,Ec,au⟩,mD⟩:=aj hm (u:=.pointer (some ⟨a.b,a.o+off,none⟩)) (by simp only[aU];exact⟨a,a4,rfl⟩) (aab q);cases cn;have mE:M.Perm (⟨a.b,.cells arr T (0,0)⟩::(a9++post)):=by rw[a'];exact mw
   have Cz:args=#[x,y]:=by apply gV;simpa using na
   have CA:fK=#[t,u]:=by apply gV;simpa using av
   have df:(⟨q.toArray⟩:ByteArray).size=q.length:=by simp[ByteArray.size]
   have mf:(lk ⟨q.toArray⟩).length=q.length:=by simp[lk]
   refine bz.V2 aO (by rw[aH,Cz,CA]) ak oF rfl he (dP ag.1) ad aE (by rw[df];exact bJ ag.2) (by rw[df,<-mf];exact jv) mE ?_;rw[df];have R1:(a9++(⟨a.b,.cells (cm arr.toList (a.o+off) (lk ⟨q.toArray⟩)).toArray T (0,0)⟩:aD)::post).Perm (⟨a.b,.cells (cm arr.toList (a.o+off) (lk ⟨q.toArray⟩)).toArray T (0,0)⟩::(a9++post)):=mw;exact k D (.int .i64 q.length) _ bP.o5 (by simp only[aU];rfl) (mD.sub λx ad=>R1.mem_iff.1 ad)
  ·cases h
 ·cases h
end
section
variable{P:Program}{w:World}
def aac(t u ty e:Nat)(i:TypeInfo)(av:P.underlying t=some (.slice e))(hu:P.underlying u=some mg)(n1:∀ k,mg≠.int k)(hi:P.info? e=some i)
 {n c T:Nat} {arr:Array Value} (au:w.heap[g]?=some (.cells arr T (0,0))) {x:Value} {m:Nat} (aa:∀ v∈b8,v.oneCell'=true)
  (c2:∀ w',(Builtin.lenOf x).run P w'=.ok m w') (e7:(Builtin.firstCells i.size m x).run P w=.ok b8.toArray w) (uL:n+m<=c) (jv:off+n*i.size+b8.length<=arr.size) :
  (Builtin.append_ #[t,u] ty #[.slice (some ⟨g,off,none⟩) n c,x]).run P w=.ok (.slice (some ⟨g,off,none⟩) (n+m) c) (w.setRow g (cm arr.toList (off+n*i.size) b8).toArray):=by
 have GS:(match mg with | .int _=>true | _=>false)=false:=by cases mg<;>first | rfl | exact(n1 _ rfl).elim
 have er:=run_storeCells_at P g (off+n*i.size) T b8 0 arr w au (by simpa using jv) aa;simp only[qb]at er;have alP:(Addr.add ⟨g,off,none⟩ (n*i.size))=⟨g,off+n*i.size,none⟩:=eP _ rfl _;simp[Builtin.append_,run_underlying av,run_underlying hu,sizeOf,typeInfo,hi,c2,uL,e7,alP,er,cm]
def alQ(t u ty e:Nat)(i:TypeInfo)(z:Value)(av:P.underlying t=some (.slice e))(hu:P.underlying u=some mg)(n1:∀ k,mg≠.int k)(hi:P.info? e=some i)(bb:i.zero=some z)(qo:z.cells.size=i.size)
 {n c:Nat} (hold:(Builtin.firstCells i.size n (.slice cR n c)).run P w.drew=.ok xs.toArray w.drew) (yn:xs.length=n*i.size) {x:Value} {m:Nat} (ay:b8.length=m*i.size)
  (c2:∀ w',(Builtin.lenOf x).run P w'=.ok m w') (e7:(Builtin.firstCells i.size m x).run P w.drew=.ok b8.toArray w.drew) (uL:c<n+m) (b1:n+m<=maxLen) (bW:(n+m)*i.bytes<=140737488355328) :
  ∃ cap aT,(Builtin.append_ #[t,u] ty #[.slice cR n c,x]).run P w=.ok (.slice (some ⟨w.heap.size,0,none⟩) (n+m) cap) (w.drew.alloc (.cells (xs++b8++aT).toArray e (0,0)))/\n+m<=cap/\cap<=maxLen/\(xs++b8++aT).length=cap*i.size:=by
 have GS:(match mg with | .int _=>true | _=>false)=false:=by cases mg<;>first | rfl | exact(n1 _ rfl).elim
 have aB:¬ (n+m<=c):=by omega
 have ho:n+m<=9223372036854775807:=by simp only[maxLen]at b1;exact b1
 have BH:¬ (9223372036854775807<((n:Int)+(m:Int))):=by omega
 have BI:¬ (281474976710656<Builtin.nextslicecap (n+m) c*i.bytes):=by have:=growslice_fits (by omega:c<n+m) bW;omega
 have cI:=grownCap_ge w (n+m) c e;have kv:grownCap w (n+m) c e<=maxLen:=grownCap_le_maxLen w (n+m) c e b1;refine⟨grownCap w (n+m) c e,(Builtin.zeroCells z.cells (grownCap w (n+m) c e-(n+m))).toList,?_,cI,kv,?_⟩
 ·simp[Builtin.append_,run_underlying av,run_underlying hu,sizeOf,typeInfo,zeroValue,hi,bb,c2,aB,BH,BI,Question.forced,e7,hold,newRow,grownCap];congr 2;apply gV;simp
 ·rw[ch,ch,yn,ay,zd,size_zeroCells,qo,<-lO,<-lO];congr 1;omega
end
section
variable{X:cU}{G:GT}{pr:lW}{D:bP}{m m':bp}{F:Fr}{al:bf ap}{C:dC}{I:aJ}{M:List aD}{K:gi}{o:Oper}{v:ap}
def cF.Me{aS:Addr}{n:Nat}{vs:List Value}(h:cF I M aS n vs)(la:eE I M w)(j:Nat)(v:Value)(ai:vs[j]?=some v):w.cell? (aS.add j)=some v:=by
 obtain⟨dL,cs,T,al,e',ah,ay⟩:=h;rw[eP _ dL,tk (e'.heap la)];rw[<-ah,k7]at ai;split at ai
 ·rw[nX]at ai;simpa using ai
 ·cases ai
def alR{x:ap}{k:Nat}{K:List ap->Option R}{r:R}(h:EP G m.t x aF.size K=some r)(ar:wG ut aF x=true)(ad:aU D x u)(hm:c9 (dN X G pr) D m I M)(ae:sW x=some k)(az:k≠0) :
  ∃ l vs,K l=some r/\bM D l vs/\(∀ w',(Builtin.lenOf u).run X.P w'=.ok k w')/\(∀ w,eE I M w->(Builtin.firstCells aF.size k u).run X.P w=.ok vs.toArray w)/\vs.length=k*aF.size /\
   ((∃ a b z e,ut=some ⟨a,b,z,.slice e⟩)\/∃ a b z,ut=some ⟨a,b,z,.string⟩):=by
 have R2:(∃ a b z e,ut=some ⟨a,b,z,.slice e⟩)\/∃ a b z,ut=some ⟨a,b,z,.string⟩:=by
  unfold wG at ar;split at ar<;>first | exact .inl ⟨_,_,_,_,rfl⟩ | exact .inr ⟨_,_,_,rfl⟩ | cases ar
 cases x<;>simp only[EP]at h<;>first | cases h | skip
 case sn=>simp[sW,wF]at ae;exact(az ae.symm).elim
 case so=>simp[sW,wF]at ae;exact(az ae.symm).elim
 case sl id off n c=>
  simp only[sW,wF,jY]at ae;subst ae;obtain⟨a,a4,rfl⟩:=ad.sX;obtain⟨aS,l,vs,aG,bl,ay,h⟩:=wK (u:=.pointer (some ⟨a.b,a.o+off,none⟩)) hm (by simp only[aU];exact⟨a,a4,rfl⟩) h;cases aG;have o6:=bl;obtain⟨_,_,_,_,_,_,c2⟩:=o6;exact⟨l,vs,h,ay,λ_=>rfl,λw hw=>run_firstCells_some (P:=X.P) w aF.size n _ n c vs c2 (λj v ai=>bl.Me hw j v ai),c2,R2⟩
 case sx id off e n=>
  simp only[sW,wF,jY]at ae;subst ae;obtain⟨a,a4,_,rfl⟩:=ad.vg;obtain⟨aS,l,vs,aG,bl,ay,h⟩:=wK (u:=.pointer (some ⟨a.b,a.o+off,none⟩)) hm (by simp only[aU];exact⟨a,a4,rfl⟩) h;cases aG;have o6:=bl;obtain⟨_,_,_,_,_,_,c2⟩:=o6;exact⟨l,vs,h,ay,λ_=>rfl,λw hw=>run_firstCells_some (P:=X.P) w aF.size n _ n _ vs c2 (λj v ai=>bl.Me hw j v ai),c2,R2⟩
 case s q=>
  simp only[sW,jY]at ae;subst ae;have alS:aF.size=1:=by
   unfold wG at ar;split at ar<;>first | exact dP ar | (rename_i e;cases e) | cases ar
  have:=ad.str;subst this;have aR:(⟨q.toArray⟩:ByteArray).size=q.length:=by simp[ByteArray.size]
  refine⟨_,lk ⟨q.toArray⟩,h,aab q,λw=>?_,λw hw=>?_,by simp[lk,alS],R2⟩;·show Result.ok _ _=_;rw[aR]
  ·have:=Vr w aF.size (P:=X.P) ⟨q.toArray⟩;rw[aR]at this;exact this
def R3(aO:cT X.P X.E)(ak:∀ d,o.dst=some d->d<X.n){s:Operand}{u:Nat}(aH:o.op=.call { callee:=.builtin .append,args:=#[s,x],argTypes:=#[t,u] })
 (av:X.E t=some ⟨cC,b1,Ah,.slice e⟩) (hu:X.E u=some lP) (fE:∀ k,lP.bL≠.int k) (he:X.E e=some aF)
 {n c k:Nat} {R4:Value} (ar:bE F s=.val (.slice cR n c)) (ad:bE F x=.val R4) (yn:xs.length=n*aF.size) (ry:b8.length=k*aF.size) (aa:gv b8=true)
  (c2:∀ w',(Builtin.lenOf R4).run X.P w'=.ok k w') (e7:∀ w,eE I M w->(Builtin.firstCells aF.size k R4).run X.P w=.ok b8.toArray w)
  (hold:∀ w,eE I M w->(Builtin.firstCells aF.size n (.slice cR n c)).run X.P w=.ok xs.toArray w) (b1:n+k<=maxLen) (bW:(n+k)*aF.bytes<=140737488355328)
  (alT:n+k<=c->∃ g off T arr a9 post,cR=some ⟨g,off,none⟩/\M=a9++⟨g,.cells arr T (0,0)⟩::post/\off+n*aF.size+b8.length<=arr.size /\ K (put o.dst (.val (.slice cR (n+k) c)) F) C I (a9++⟨g,.cells (cm arr.toList (off+n*aF.size) b8).toArray T (0,0)⟩::post))
  (alU:c<n+k->∀ b cap aT,I b=none->(∀ y∈M,y.num≠b)->n+k<=cap->cap<=maxLen->(xs++b8++aT).length=cap*aF.size ->
   K (put o.dst (.val (.slice (some ⟨b,0,none⟩) (n+k) cap)) F) C I (⟨b,.cells (xs++b8++aT).toArray e (0,0)⟩::M)):bz X o F C I M K:=by
 refine⟨λa w Q ⟨β,aV⟩=>?_⟩;obtain⟨inf,z,hi,fr,iN,iw,kp⟩:=(aO _ _ he).inf;obtain⟨d,fF,fk⟩:=(aO _ _ hu).fo;obtain⟨fL,jL,j7⟩:=(aO _ _ av).fo;have qp:fL=.slice e:=by cases fL<;>simp_all[fm]
 subst qp;have qo:z.cells.size=inf.size:=by rw[fr,<-(aO _ _ he).len,<-kp];simp
 have es:=dd aV.al ar;have ex:=dd aV.al ad;have n1:∀ k,d≠.int k:=λk cX=>fE k (by rw[<-fk,cX];rfl);rw[<-fr]at yn ry hold e7;by_cases uL:n+k<=c
 ·obtain⟨g,off,T,arr,a9,post,rfl,a',jv,ae⟩:=alT uL;rw[<-fr]at jv ae;have au:w.heap[g]?=some (.cells arr T (0,0)):=aV.holds.m ⟨g,.cells arr T (0,0)⟩ (by rw[a'];simp);have fa:=aac (P:=X.P) (w:=w) t u o.type e inf jL fF n1 hi au (y2 aa) c2 (e7 w aV.holds) uL jv;refine iY (by rw[aH];simp) ?_ ⟨_,_,_,_,⟨β,cK.put (x:=.val (.slice (some ⟨g,off,none⟩) (n+k) c)) (aV.xA a') ak rfl⟩,ae⟩;unfold execOp;simp only[aH,resolve,invoke,builtin,ck,c3,bV,su,b0,hy,es,ex,fa]
 ·have la:eE I M w.drew:=aV.holds.heap rfl;obtain⟨cap,aT,fa,ab,aj,aI⟩:=alQ (P:=X.P) (w:=w) t u o.type e inf z jL fF n1 hi iw qo (hold w.drew la) yn ry c2 (e7 w.drew la) (by omega) b1 (by rw[iN];exact bW);have ll:cK X β a w.drew F C I M:=aV.world rfl;rw[fr]at aI;refine iY (by rw[aH];simp) ?_ ⟨_,_,_,_,⟨β,cK.put (x:=.val (.slice (some ⟨w.heap.size,0,none⟩) (n+k) cap)) (ll.nY (.cells (xs++b8++aT).toArray e (0,0))) ak rfl⟩,alU (by omega) w.heap.size cap aT aV.holds.sq aV.holds.q6 ab aj aI⟩;unfold execOp;simp only[aH,resolve,invoke,builtin,ck,c3,bV,su,b0,hy,es,ex,fa]
def aad{u:Nat}{x:ap}(h:wG (X.E u) aF x=true):∃ lP,X.E u=some lP/\∀ k,lP.bL≠.int k:=by
 unfold wG at h;split at h<;>first | (cases h;done) | (rename_i e;exact⟨_,e,by simp⟩) | (rename_i e _;exact⟨_,e,by simp⟩) | (rename_i e _ _;exact⟨_,e,by simp⟩)
def alV{s:ap}(h:ER s=true)(ar:aU D s u):∃ a n c,u=.slice a n c/\n<=c:=by
 cases s<;>simp only[ER,k8]at h
 case sn=>exact⟨_,_,_,ar.Cu,ca _⟩
 case so=>obtain⟨a,c,rfl⟩:=ar.L1;exact⟨_,_,_,rfl,dD _⟩
 case sl=>obtain⟨a,_,rfl⟩:=ar.sX;exact⟨_,_,_,rfl,bJ h⟩
 case sx=>obtain⟨a,_,bm,rfl⟩:=ar.vg;exact⟨_,_,_,rfl,by omega⟩
def alW{x:ap}(ar:wG ut aF x=true)(ad:aU D x u)(ae:sW x=some 0):(∃ b c,u=.slice b 0 c)\/u=.string .empty:=by
 cases x<;>simp[sW,wF]at ae
 case sn=>exact .inl ⟨_,_,ad.Cu⟩
 case so=>obtain⟨a,c,rfl⟩:=ad.L1;exact .inl ⟨_,_,rfl⟩
 case sl=>subst ae;obtain⟨a,_,rfl⟩:=ad.sX;exact .inl ⟨_,_,rfl⟩
 case sx=>subst ae;obtain⟨a,_,_,rfl⟩:=ad.vg;exact .inl ⟨_,_,rfl⟩
 case gs=>subst ae;exact .inl ⟨_,_,ad.RF⟩
 case s=>subst ae;exact .inr ad.str
noncomputable abbrev R5(X:cU)(G:GT)(m:bp)(s x:ap)(aF:dG)(aN e:Nat):List ap->Option (ap×bp):=λl=>bo (some aN) none λk=>bY (Nat.beq k 0) (bY (ER s) (some (s,m)) none) (bY (l.all ap.one) (H8 G m s l k aF.size aF.bytes e) none)
def alX(aO:cT X.P X.E)(ak:∀ d,o.dst=some d->d<X.n){u:Nat}(aH:o.op=.call { callee:=.builtin .append,args:=#[os,pO],argTypes:=#[t,u] })
 (av:X.E t=some ⟨cC,b1,Ah,.slice e⟩) {s x:ap} (vl:wG (X.E u) aF x=true) (he:X.E e=some aF) (ae:sW x=some 0) {us:Value}
  (es:bE F os=.val us) (gs:aU D s us) (ex:bE F pO=.val l9) (Ap:aU D x l9) (h:EP G m.t x aF.size (R5 X G m s x aF 0 e)=some (v,m'))
  (hm:c9 (dN X G pr) D m I M) (k:r6 X G pr D m I M v m' o.dst F C K):bz X o F C I M K:=by
 have ab:∃ l,R5 X G m s x aF 0 e l=some (v,m'):=by
  cases x<;>simp only[EP]at h<;>first | cases h | exact⟨_,h⟩ | skip
  case sl=>obtain⟨a,a4,rfl⟩:=Ap.sX;obtain⟨_,l,_,_,_,_,h⟩:=wK (u:=.pointer (some ⟨a.b,a.o+_,none⟩)) hm (by simp only[aU];exact⟨a,a4,rfl⟩) h;exact⟨l,h⟩
  case sx=>obtain⟨a,a4,_,rfl⟩:=Ap.vg;obtain⟨_,l,_,_,_,_,h⟩:=wK (u:=.pointer (some ⟨a.b,a.o+_,none⟩)) hm (by simp only[aU];exact⟨a,a4,rfl⟩) h;exact⟨l,h⟩
 obtain⟨l,ab⟩:=ab;have aj:bY (ER s) (some (s,m)) none=some (v,m'):=ab;obtain⟨an,aj⟩:=fW aj;cases aj;obtain⟨a,n,c,rfl,mZ⟩:=alV an gs;obtain⟨lP,hu,fE⟩:=aad vl;exact bz.Po aO aH ak av rfl hu fE he es mZ ex (alW vl Ap ae) (k D _ M bP.o5 gs hm)
def alY(aO:cT X.P X.E)(ak:∀ d,o.dst=some d->d<X.n){u:Nat}(aH:o.op=.call { callee:=.builtin .append,args:=#[os,pO],argTypes:=#[t,u] })
 (av:X.E t=some ⟨cC,b1,Ah,.slice e⟩) (hu:X.E u=some lP) (fE:∀ k,lP.bL≠.int k) (he:X.E e=some aF) {us:Value} {id off n c aN:Nat}
  (es:bE F os=.val us) (gs:aU D (.sl id off n c) us) (ex:bE F pO=.val l9) {l:List ap} {vs:List Value} (h:Rk G m id off n c l aN aF.size e=some (v,m')) (ho:n+aN<=maxLen) (gY:(n+aN)*aF.bytes<=140737488355328)
  (ay:bM D l vs) (sS:vs.length=aN*aF.size) (aa:gv vs=true) (c2:∀ w',(Builtin.lenOf l9).run X.P w'=.ok aN w') (e7:∀ w,eE I M w->(Builtin.firstCells aF.size aN l9).run X.P w=.ok vs.toArray w)
  (hm:c9 (dN X G pr) D m I M) (k:r6 X G pr D m I M v m' o.dst F C K):bz X o F C I M K:=by
 have Is:∀ {q:List Value} {c:Nat},q.length=c*aF.size->∀ i,(dN X G pr).E e=some i->q.length=c*i.size:=λaR i hi=>by have:X.E e=some i:=hi;rw[he]at this;cases this;exact aR
 obtain⟨a,a4,rfl⟩:=gs.sX;unfold Rk at h;by_cases af:n+aN<=c
 ·have ag:Nat.ble (Nat.add n aN) c=true:=Cf af;rw[ag]at h;have bc:yj m (.p id (Nat.add off (Nat.mul n aF.size))) l (λm=>some (ap.sl id off (Nat.add n aN) c,m))=some (v,m'):=h;obtain⟨m2,ab,-,-,aj⟩:=RX (Y:=dN X G pr) bc;cases ab;obtain⟨g,JV,a9,post,arr,T,aG,a',jv,oz,⟨iV,cX,hc,lY,Ec,au⟩,mD⟩:=aj hm (u:=.pointer (some ⟨a.b,a.o+(off+n*aF.size),none⟩)) (by simp only[aU];exact⟨a,a4,rfl⟩) ay;cases aG;refine⟨λac w Q ⟨β,aV⟩=>?_⟩;obtain⟨inf,z,hi,fr,iN,iw,kp⟩:=(aO _ _ he).inf;obtain⟨d,fF,fk⟩:=(aO _ _ hu).fo;obtain⟨fL,jL,j7⟩:=(aO _ _ av).fo;have qp:fL=.slice e:=by cases fL<;>simp_all[fm]
  subst qp;have au:w.heap[a.b]?=some (.cells arr T (0,0)):=aV.holds.m ⟨a.b,.cells arr T (0,0)⟩ (by rw[a'];simp);have vk:=dd aV.al es;have CB:=dd aV.al ex;rw[<-fr]at e7;have fa:=aac (P:=X.P) (w:=w) t u o.type e inf jL fF (λk cX=>fE k (by rw[<-fk,cX];rfl)) hi au (y2 aa) c2 (e7 w aV.holds) af (off:=a.o+off) (by rw[fr];omega);rw[fr,tf]at fa;have ll:=aV.xA (cs':=(cm arr.toList (a.o+(off+n*aF.size)) vs).toArray) a';refine iY (by rw[aH];simp) ?_ ⟨_,_,_,_,⟨β,cK.put (x:=.val (.slice (some ⟨a.b,a.o+off,none⟩) (n+aN) c)) ll ak rfl⟩,?_⟩;·unfold execOp;simp only[aH,resolve,invoke,builtin,ck,c3,bV,su,b0,hy,vk,CB,fa]
  ·exact k D _ _ bP.o5 (by simp only[aU];exact⟨a,a4,rfl⟩) mD
 ·have ag:Nat.ble (Nat.add n aN) c=false:=by
   cases ag:Nat.ble (Nat.add n aN) c with
   |false=>rfl| true=>exact absurd (bJ ag) af
  rw[ag]at h;have bc:tW G m.t (.p id off) (Nat.mul n aF.size) (λdH=>ve m (dH++l) e λid m=>some (ap.sx id 0 0 (Nat.add n aN),m))=some (v,m'):=h;obtain⟨aS,dH,xs,aG,bl,eS,ab⟩:=wK (u:=.pointer (some ⟨a.b,a.o+off,none⟩)) hm (by simp only[aU];exact⟨a,a4,rfl⟩) bc;cases aG;obtain⟨m2,b4,aB,ef⟩:=RU (Y:=dN X G pr) ab;cases b4;have o6:=bl;obtain⟨_,_,_,_,_,_,ij⟩:=o6;refine R3 aO ak aH av hu fE he es ex ij sS aa c2 e7 (λw hw=>run_firstCells_some (P:=X.P) w aF.size n _ n c xs ij (λj v ai=>bl.Me hw j v ai)) ho gY (λeY=>(af eY).elim) λ_ b cap aT bw aA ua yo r7=>?_;refine k _ _ _ bP.E7 ?_ (ef aT hm aA (eS.append ay) (Is r7) yo);simp only[aU];exact⟨_,bP.pU _ _ _,by simpa using ua,by simp⟩
def alZ(aO:cT X.P X.E)(ak:∀ d,o.dst=some d->d<X.n){u:Nat}(aH:o.op=.call { callee:=.builtin .append,args:=#[os,pO],argTypes:=#[t,u] })
 (av:X.E t=some ⟨cC,b1,Ah,.slice e⟩) (hu:X.E u=some lP) (fE:∀ k,lP.bL≠.int k) (he:X.E e=some aF) {us:Value} {id n fH aN:Nat} {cs:bf ap}
  (es:bE F os=.val us) (gs:aU D (.sx id 0 0 n) us) (ex:bE F pO=.val l9) (au:m.t.get id=some (.cells cs e fH)) {l:List ap} {vs:List Value} (h:Rl m id n cs fH l aN aF.size e=some (v,m')) (ho:n+aN<=maxLen) (gY:(n+aN)*aF.bytes<=140737488355328)
  (ay:bM D l vs) (sS:vs.length=aN*aF.size) (aa:gv vs=true) (c2:∀ w',(Builtin.lenOf l9).run X.P w'=.ok aN w') (e7:∀ w,eE I M w->(Builtin.firstCells aF.size aN l9).run X.P w=.ok vs.toArray w)
  (hm:c9 (dN X G pr) D m I M) (k:r6 X G pr D m I M v m' o.dst F C K):bz X o F C I M K:=by
 obtain⟨a,a4,bm,rfl⟩:=gs.vg;have qe:=hm.iU _ _ _ au a4;obtain⟨arr,yp,a',df,an,ae,iu⟩:=qe;unfold Rl at h;obtain⟨Al,h⟩:=fW h;have aae:n*aF.size<=fH:=bJ Al;obtain⟨t1,ab,aj⟩:=bf.o1 (none:Option fG) m.t id;rw[ab]at h;obtain⟨cs',aI,bB⟩:=bf.yl l cs (Nat.mul n aF.size);have bc:bf.yf l cs (Nat.mul n aF.size) (λcs=>Co (⟨t1,m.n⟩:bp) (.cells cs e (Nat.mul (Nat.add n aN) aF.size)) λid m=>some (ap.sx id 0 0 (Nat.add n aN),m))=some (v,m'):=h;rw[aI]at bc;obtain⟨t2,b4,ef⟩:=Ip bc;cases ef;have kx:∀ i e8,t1.get i=some e8->i≠id/\m.t.get i=some e8:=λi e8 hi=>by
  rcases aj i e8 hi with⟨_,fl⟩ | fl;·cases fl
  ·exact fl
 have aaf:c9 (dN X G pr) D ⟨t1,m.n⟩ I M:=⟨λi e8 b hi=>hm.iU i e8 b (kx i e8 hi).2,λi gU e8 Aq b iM hi cZ=>hm.inj i gU e8 Aq b iM (kx i e8 hi).2 (kx gU Aq cZ).2,hm.jS,hm.qR⟩;have aag:arr.size=a.c*aF.size:=by have:=ae aF he;rw[yp,c8]at this;exact this
 have L0:=ay.len;have yn:((arr.toList.take (n*aF.size)).length=n*aF.size):=by rw[hx,zd];omega
 have HF:∀ j,j<n*aF.size->∀ v,cs.get j=some v->∃ x,(arr.toList.take (n*aF.size))[j]?=some x/\aU D v x:=λj ai v ah=>by obtain⟨x,a8,ba⟩:=an j v (by omega) ah;rw[yp,c8]at a8;exact⟨x,by rw[k7,bN ai];simpa using a8,ba⟩
 have aah:∀ (bC:bP) (M':List aD) (b eU:Nat) (bj:List Value),D.le bC->(⟨b,.cells (arr.toList.take (n*aF.size)++vs++bj).toArray e (0,0)⟩:aD)∈M'->(arr.toList.take (n*aF.size)++vs++bj).length=eU*aF.size->eU<=maxLen ->
   lC bC X.E M' ⟨b,0,eU⟩ (.cells cs' e (Nat.mul (Nat.add n aN) aF.size)):=by
  intro bC M' b eU bj cW yq al0 al1;have hmul:(n+aN)*aF.size=n*aF.size+aN*aF.size:=lO _ _ _;refine .cells _ rfl yq ?_ (λi v hi vj=>?_) (λi hi=>?_) al1;·show 0+(n+aN)*aF.size<=_;rw[oC,ch,ch,yn,sS];omega
  ·have cZ:i<n*aF.size+aN*aF.size:=by have:i<(n+aN)*aF.size:=hi;omega
   simp only[c8,Bu];rcases bB i v vj with⟨a8,ba⟩ | ⟨a8,ba⟩;·have Mf:n*aF.size<=i:=a8;obtain⟨x,bQ,ft⟩:=ay.get (i:=i-n*aF.size) ba;refine⟨x,?_,ft.mono cW⟩;rw[dV,m3 (by omega),yn,rj (by omega)];exact bQ
   ·have Mf:i<n*aF.size:=by
     rcases a8 with a8 | a8;·exact a8
     ·have:n*aF.size+l.length<=i:=a8;omega
    obtain⟨x,bQ,ft⟩:=HF i Mf v ba;refine⟨x,?_,ft.mono cW⟩;rw[dV,rj (by omega)];exact bQ
  ·rw[he]at hi;cases hi;simpa using al0
 refine R3 aO ak aH av hu fE he es ex yn sS aa c2 e7 (λw hw=>?_) ho gY (λaf=>?_) λ_ b cap aT bw aA ua yo r7=>?_
 ·refine run_firstCells_some (P:=X.P) w aF.size n _ n _ _ yn λj v ai=>?_;rw[eP _ rfl,tk (hw.m _ a')];rw[k7]at ai;split at ai
  ·rw[yp];simpa using ai
  ·cases ai
 ·
  obtain⟨a9,post,dL⟩:=vi a';rw[KW]at af;have jv:a.o+0+n*aF.size+vs.length<=arr.size:=by have dW:=vK aF.size af;rw[lO]at dW;rw[yp,aag,sS];omega
  refine⟨a.b,a.o+0,e,arr,a9,post,rfl,dL,jv,?_⟩;have aai:cm arr.toList (a.o+0+n*aF.size) vs=arr.toList.take (n*aF.size)++vs++arr.toList.drop (n*aF.size+vs.length):=by rw[yp];simp only[cm,c8]
  rw[aai];have nB:∀ q∈M,q.num≠a.b->q∈a9++(⟨a.b,.cells (arr.toList.take (n*aF.size)++vs++arr.toList.drop (n*aF.size+vs.length)).toArray e (0,0)⟩:aD)::post:=λq aR aB=>by
   rw[dL]at aR;rcases cB.1 aR with aR | aR;·exact cB.2 (.inl aR)
   ·rcases ec.1 aR with rfl | aR
    ·exact(aB rfl).elim
    ·exact cB.2 (.inr (nQ _ aR))
  have It:∀ i e8 b,t1.get i=some e8->D i=some b->b.b≠a.b:=λi e8 b hi ag CC=>(kx i e8 hi).1 (hm.inj _ _ _ _ _ _ (kx i e8 hi).2 au ag a4 CC);refine k _ _ _ bP.E7 ?_ (aaf.step (m:=⟨t1,m.n⟩) (j:=m.n) (λi e8 hi=>(b4 i e8 hi).imp (λq=>⟨q.1,o3 q.2⟩) λq=>q) (D.pU _ ⟨a.b,0,a.c⟩) (bP.Aj _ hm.fresh) (λi hi=>by unfold bP.set;rw[bR hi]) (λi b ag=>?_) (λ_ _ h=>h) (λi e8 b bt hi ag q aR aB=>nB q aR (by rw[aB];exact It i e8 b hi ag)) (aah _ _ _ _ (arr.toList.drop (n*aF.size+vs.length)) (bP.Aj _ hm.fresh) (by simp) ?_ iu) λi e8 b bt hi ag=>It i e8 b hi ag);·simp only[aU];exact⟨_,bP.pU _ _ _,by simpa using af,by rw[yp];rfl⟩
  ·unfold bP.set at ag;split at ag
   ·show i<m.n+1;omega
   ·have:=hm.jS _ _ ag;show i<m.n+1;omega
  ·rw[<-aai,RW (by simpa using jv)];simpa using aag
 ·
  refine k _ _ _ bP.E7 ?_ (aaf.new (m:=⟨t1,m.n⟩) (a:=⟨b,0,cap⟩) b4 aA (aah _ _ _ _ _ (bP.Aj _ hm.fresh) (by simp) r7 yo));simp only[aU];exact⟨_,bP.pU _ _ _,by simpa using ua,by simp⟩
def al2(aO:cT X.P X.E)(ak:∀ d,o.dst=some d->d<X.n){u:Nat}(aH:o.op=.call { callee:=.builtin .append,args:=#[os,pO],argTypes:=#[t,u] })
 (av:X.E t=some ⟨cC,b1,Ah,.slice e⟩) {s x:ap} (vl:wG (X.E u) aF x=true) (he:X.E e=some aF) {aN:Nat} (ae:sW x=some aN) (az:aN≠0) {us:Value}
  (es:bE F os=.val us) (gs:aU D s us) (ex:bE F pO=.val l9) (Ap:aU D x l9) (h:EP G m.t x aF.size (R5 X G m s x aF aN e)=some (v,m'))
  (hm:c9 (dN X G pr) D m I M) (k:r6 X G pr D m I M v m' o.dst F C K):bz X o F C I M K:=by
 obtain⟨l,vs,ab,ay,c2,e7,sS,_⟩:=alR (ut:=X.E u) h vl Ap hm ae az;have aj:bY (Nat.beq aN 0) (bY (ER s) (some (s,m)) none) (bY (l.all ap.one) (H8 G m s l aN aF.size aF.bytes e) none)=some (v,m'):=ab;rw[hs az]at aj;have aI:bY (l.all ap.one) (H8 G m s l aN aF.size aF.bytes e) none=some (v,m'):=aj;obtain⟨oz,aI⟩:=fW aI;have aa:=ay.one oz;obtain⟨lP,hu,fE⟩:=aad vl;have Is:∀ {q:List Value} {c:Nat},q.length=c*aF.size->∀ i,(dN X G pr).E e=some i->q.length=c*i.size:=λaR i hi=>by have:X.E e=some i:=hi;rw[he]at this;cases this;exact aR
 cases s<;>simp only[H8]at aI<;>first | cases aI | skip
 case sn=>
  obtain⟨ag,bB⟩:=fW aI;rw[cz]at ag;obtain⟨m2,b4,aB,ef⟩:=RU (Y:=dN X G pr) bB;cases b4;have iS:=gs.Cu;subst iS;have ho:0+aN<=maxLen:=by rw[c8];exact bJ ag.2
  have gY:(0+aN)*aF.bytes<=140737488355328:=by rw[c8];exact bJ ag.1
  refine R3 aO ak aH av hu fE he (n:=0) (c:=0) (xs:=[]) es ex (by simp) sS aa c2 e7 (λw _=>by simp[run_firstCells_none]) ho gY (λaf=>by omega) λ_ b cap aT bw aA ua yo r7=>?_;refine k _ _ _ bP.E7 ?_ (ef aT hm aA ay (Is r7) yo);simp only[aU];exact⟨_,bP.pU _ _ _,by simpa using ua,by simp⟩
 case sl=>
  obtain⟨ag,bB⟩:=fW aI;rw[cz]at ag;exact alY aO ak aH av hu fE he es gs ex bB (bJ ag.2) (bJ ag.1) ay sS aa c2 e7 hm k
 case sx=>
  split at aI;·rename_i au;obtain⟨ag,bB⟩:=fW aI;simp only[cz]at ag;obtain⟨⟨gy,gE⟩,qC,Le,Lf⟩:=ag;have d1:=dP gy;have d2:=dP gE;have d3:=dP qC;subst d1;subst d2;subst d3;exact alZ aO ak aH av hu fE he es gs ex au bB (bJ Lf) (bJ Le) ay sS aa c2 e7 hm k
  ·cases aI
def al3(aO:cT X.P X.E)(ak:∀ d,o.dst=some d->d<X.n)(aH:o.op=.call { callee:=.builtin .append,args:=args,argTypes:=fK })(h:Rn (dN X G pr) m fK.toList (oa al args.toList)=some (v,m'))
  (H:jl D F al args.toList) (hm:c9 (dN X G pr) D m I M) (k:r6 X G pr D m I M v m' o.dst F C K):bz X o F C I M K:=by
 unfold Rn at h;split at h
 ·rename_i t u s x av ay;split at h
  ·rename_i sa sY sz e oF;obtain⟨aF,he,h⟩:=cp h;obtain⟨vl,h⟩:=fW h;obtain⟨os,pO,na,fq,wQ⟩:=Md ay;obtain⟨us,es,gs⟩:=H.bE (x:=os) (by rw[na];simp) fq;obtain⟨l9,ex,Ap⟩:=H.bE (x:=pO) (by rw[na];simp) wQ;have Cz:args=#[os,pO]:=by apply gV;simpa using na
   have CA:fK=#[t,u]:=by apply gV;simpa using av
   have ru:o.op=.call { callee:=.builtin .append,args:=#[os,pO],argTypes:=#[t,u] }:=by rw[aH,Cz,CA]
   cases ae:sW x with
   |none=>
    exfalso;unfold wG at vl;split at vl<;>first | (cases vl;done) | (simp[sW,wF]at ae;done)
   |some aN=>
    rw[ae]at h;by_cases az:aN=0;·subst az;exact alX aO ak ru oF vl he ae es gs ex Ap h hm k
    ·exact al2 aO ak ru oF vl he ae az es gs ex Ap h hm k
  ·cases h
 ·cases h
end
section
variable{X:cU}{β:Nat->Nat}{F:Fr}{C:dC}{I:aJ}{M:List aD}{o:Oper}{K:gi}
def R6(aO:cT P E)(av:E t=some c7)(dR:c7.bL=.slice e):P.underlying t=some (.slice e):=by
 obtain⟨fL,jL,j7⟩:=(aO _ _ av).fo;have qp:fL=.slice e:=by rw[dR]at j7;cases fL<;>simp_all[fm]
 rw[jL,qp]
def gw.R7(aO:cT P E)(av:E t=some c7)(dR:c7.bL=.slice e){n c c':Nat}{V:Value->Prop}{other:Prop}
  (h:V (.bool a.isNone)):gw P .eql t x y (.val (.slice a n c)) (.val (.slice none hS c')) V other:=by
 have aa:=R6 aO av dR;refine .mk _ _ _ rfl rfl (λw=>?_) h;have aG:(eqGuard .eql t x y (.slice a n c) (.slice none hS c')).run P w=.ok () w:=by unfold eqGuard;rfl
 simp only[ck,aG,bV];exact Lib.run_eql_slice_nil w t e a n c hS c' aa
def bz.slice3(aO:cT X.P X.E)(aH:o.op=.slice t x (some lo) (some hi) (some mx))(ak:∀ d,o.dst=some d->d<X.n)
 (av:X.E t=some c7) (dR:c7.bL=.slice e) (he:X.E e=some aF) {aS:Option Addr} {n c:Nat} (l h m:Nat) {eg:IntKind}
  (ad:bE F x=.val (.slice aS n c)) (eS:bE F lo=.val (.int eg (l:Nat))) (gB:bE F hi=.val (.int cy (h:Nat))) (iu:bE F mx=.val (.int gG (m:Nat)))
  (aa:l<=h) (ab:h<=m) (aj:m<=c) (k:K (put o.dst (.val (.slice (if m=l then aS else aS.map (·.add (l*aF.size))) (h-l) (m-l))) F) C I M):bz X o F C I M K:=by
 refine⟨λa w Q ⟨β,aV⟩=>?_⟩;have hu:=R6 aO av dR;refine iY (by rw[aH];simp) (v:=.slice (if m=l then aS else aS.map (·.add (l*aF.size))) (h-l) (m-l)) (w':=w) ?_ ⟨_,_,_,_,⟨β,cK.put (x:=.val (.slice (if m=l then aS else aS.map (·.add (l*aF.size))) (h-l) (m-l))) aV ak rfl⟩,k⟩;have ex:=dd aV.al ad;have aG:=dd aV.al eS;have a7:=dd aV.al gB;have cn:=dd aV.al iu;simp only[execOp,aH,Instr.sliceAt,Instr.slice,Instr.sliceBounds,Instr.sliceBound,ex,ck,run_underlying hu,bV,(aO _ _ he).run_sizeOf,c3,k9,uv,aG,a7,cn,ox];rw[bN ⟨by omega,by omega⟩];simp only[c3,bV,g6];rw[bN ⟨by omega,by omega⟩];simp only[c3,bV,g6];rw[bN ⟨by omega,by omega⟩];simp
end
section
variable{X:cU}{G:GT}{pr:lW}{D:bP}{m m':bp}{F:Fr}{al:bf ap}{C:dC}{I:aJ}{M:List aD}{K:gi}{o:Oper}{v:ap}
def al4(aO:cT X.P X.E)(ak:∀ d,o.dst=some d->d<X.n)(aH:o.op=.call { callee:=.builtin .unsafeString,args:=args,argTypes:=fK })(h:Rp (dN X G pr) m fK.toList (oa al args.toList)=some (v,m'))
  (H:jl D F al args.toList) (hm:c9 (dN X G pr) D m I M) (k:r6 X G pr D m I M v m' o.dst F C K):bz X o F C I M K:=by
 unfold Rp at h;split at h
 ·rename_i uH it av ay;cases h;obtain⟨op,on,na,aa,ab⟩:=Md ay;obtain⟨wO,aG,a8⟩:=H.bE (x:=op) (by rw[na];simp) aa;obtain⟨r5,a7,ba⟩:=H.bE (x:=on) (by rw[na];simp) ab;have Cz:args=#[op,on]:=by apply gV;simpa using na
  have CA:fK=#[uH,it]:=by apply gV;simpa using av
  have Mf:wO=.pointer none:=by simpa only[aU]using a8
  subst Mf;rw[ba.int]at a7;refine bz.V1 (by rw[aH,Cz,CA]) ak aG a7 (k D _ M bP.o5 ?_ hm);simp only[aU];rfl
 ·rename_i uH it id n av ay;split at h
  ·rename_i sa sY sz e cs T fH al5 au;obtain⟨aF,he,ef⟩:=cp h;obtain⟨ag,fl⟩:=fW ef;simp only[cz]at ag;obtain⟨op,on,na,aa,ab⟩:=Md ay;obtain⟨wO,aG,a8⟩:=H.bE (x:=op) (by rw[na];simp) aa;obtain⟨r5,a7,ba⟩:=H.bE (x:=on) (by rw[na];simp) ab;have Cz:args=#[op,on]:=by apply gV;simpa using na
   have CA:fK=#[uH,it]:=by apply gV;simpa using av
   rw[ba.int]at a7;obtain⟨a,a4,rfl⟩:=a8.ptr;have qe:=hm.iU _ _ _ au a4;obtain⟨arr,yp,a',df,an,ae,iu⟩:=qe;have Is:=dP ag.2.1;subst Is;unfold tW at fl;simp only[au]at fl;cases R8:Nat.ble (Nat.add 0 n) fH with
   |false=>rw[R8]at fl;cases fl| true=>
   rw[R8]at fl;simp only[b5]at fl;have ry:0+n<=fH:=bJ R8;obtain⟨l,gy,gE,dW⟩:=bf.EX cs n 0 _ _ fl;obtain⟨bK,pF,sD⟩:=cp dW;obtain⟨O7,R9⟩:=fW sD;obtain⟨t1,aI,bB⟩:=bf.o1 (none:Option fG) m.t id;rw[aI]at R9;cases R9;have uZ:(arr.toList.take n).length=n:=by rw[hx,zd];omega
   have E9:bM D l (arr.toList.take n):=bM.RE (by rw[uZ,gy]) λi v hi=>by
    have fw:i<n:=by rw[<-gy];exact(ia.1 hi).1
    obtain⟨x,bQ,ft⟩:=an i v (by omega) (by have:=gE i fw;rw[c8]at this;rw[this,hi]);rw[yp,c8]at bQ;exact⟨x,by rw[k7,bN fw];simpa using bQ,ft⟩
   have iL:=RY pF E9;have mf:bK.length=n:=by have:=congrArg List.length iL;rw[uZ]at this;simpa using this.symm
   obtain⟨a9,post,dL⟩:=vi a';have mE:M.Perm (⟨a.b,.cells arr T (0,0)⟩::(a9++post)):=by rw[dL];exact mw
   have nx:arr.toList.take bK.length=bK.map λb=>Value.int .u8 b.toNat:=by rw[mf];exact iL
   have az:bK≠[]:=λcX=>by subst cX;have:0<n:=bJ ag.2.2;simp at mf;omega
   have ej:bE F op=.val (.pointer (some ⟨a.b,0,none⟩)):=by rw[aG,yp]
   have q9:bE F on=.val (.int .i64 bK.length):=by rw[a7,mf];rfl
   refine bz.O6 aO (by rw[aH,Cz,CA]) ak al5 rfl he (dP ag.1) ej q9 az (by rw[mf];exact bJ O7) mE nx ?_;have kx:∀ i e8,t1.get i=some e8->i≠id/\m.t.get i=some e8:=λi e8 hi=>by
    rcases bB i e8 hi with⟨_,fl⟩ | fl;·cases fl
    ·exact fl
   refine k D _ _ bP.o5 (by simp only[aU]) ⟨λi e8 b hi ho=>?_,λi gU e8 Aq b iM hi cZ=>hm.inj i gU e8 Aq b iM (kx i e8 hi).2 (kx gU Aq cZ).2,hm.jS,hm.qR⟩;refine(hm.iU i e8 b (kx i e8 hi).2 ho).mono (bP.le_refl D) λq aR aB=>?_;rcases ec.1 (mE.mem_iff.1 aR)with rfl | aR;·exact((kx i e8 hi).1 (hm.inj _ _ _ _ _ _ (kx i e8 hi).2 au ho a4 aB.symm)).elim
   ·exact aR
  ·cases h
 ·cases h
def al6(aO:cT X.P X.E)(ak:∀ d,o.dst=some d->d<X.n){v:ap}(aH:o.op=.slice t x (some lo) (some hi) (some mx))(h:Rh X.E t (dj al x) (dj al lo) (dj al hi) (dj al mx)=some v)
  (H:jl D F al o.op.operands.toList) (hm:c9 (dN X G pr) D m I M) (k:∀ x,gp D x v->K (put o.dst x F) C I M):bz X o F C I M K:=by
 unfold Rh at h;split at h
 ·rename_i sz hH z e id off n c eg l cy bc gG gh av ad eS gB iu;obtain⟨aF,he,ef⟩:=cp h;obtain⟨ag,fl⟩:=fW ef;simp only[cz]at ag;obtain⟨b1,bW,cY,hp⟩:=ag;cases fl;have b1:=bJ b1;have bW:=bJ bW;have cY:=bJ cY;have hp:l+1<=gh:=bJ hp;obtain⟨Qi,db,oU⟩:=H.bE (x:=x) (by rw[aH];simp[Op.operands]) ad;obtain⟨wO,aG,a8⟩:=H.bE (x:=lo) (by rw[aH];simp[Op.operands]) eS;obtain⟨r5,a7,ba⟩:=H.bE (x:=hi) (by rw[aH];simp[Op.operands]) gB;obtain⟨Ao,cn,bQ⟩:=H.bE (x:=mx) (by rw[aH];simp[Op.operands]) iu;rw[a8.int]at aG;rw[ba.int]at a7;rw[bQ.int]at cn;simp only[aU]at oU;obtain⟨a,a4,rfl⟩:=oU;refine bz.slice3 aO aH ak av rfl he l bc gh db aG a7 cn b1 bW cY (k _ (.val ?_));simp only[aU];refine⟨a,a4,?_⟩;rw[bR (by omega),k9,eP _ rfl];simp only[zZ,Ey,Ez,tf]
 ·cases h
def aaj{sz hH:Nat}{z:List Value}{n c h m:Nat}(aH:o.op=.slice t x none (some hi) (some mx))(av:X.E t=some ⟨sz,hH,z,.slice e⟩)(he:X.E e=some aF)
  (ad:bE F x=.val (.slice a n c)) (cS:bE F hi=.val (.int cy (h:Nat))) (hm:bE F mx=.val (.int gG (m:Nat))) (aa:h<=m) (ab:m<=c) (k:K (put o.dst (.val (.slice (if m=0 then a else a.map (·.add (0*aF.size))) (h-0) (m-0))) F) C I M):gW X o F C I M K:=by
 obtain⟨dst,CD,ty,pos,after,guard⟩:=o;simp only at aH;subst aH;have aG:dy (dk F) x=.val (.slice a n c):=ad;have a7:dy (dk F) hi=.val (.int cy (h:Nat)):=cS;have cn:dy (dk F) mx=.val (.int gG (m:Nat)):=hm;simp only[gW,cG,av,he,aG,a7,cn,uv,k9];exact⟨h,m,rfl,rfl,aa,ab,k⟩
def al7(aO:cT X.P X.E)(ak:∀ d,o.dst=some d->d<X.n){v:ap}(aH:o.op=.slice t x none (some hi) (some mx))(h:Rg X.E t (dj al x) (dj al hi) (dj al mx)=some v)
  (H:jl D F al o.op.operands.toList) (hm:c9 (dN X G pr) D m I M) (k:∀ x,gp D x v->K (put o.dst x F) C I M):gW X o F C I M K:=by
 unfold Rg at h;split at h
 ·rename_i sz hH z e id off n c cy bc gG gh av ad gB iu;obtain⟨aF,he,ef⟩:=cp h;obtain⟨ag,fl⟩:=fW ef;simp only[cz]at ag;obtain⟨bW,cY,hp⟩:=ag;cases fl;have bW:=bJ bW;have cY:=bJ cY;have hp:0+1<=gh:=bJ hp;obtain⟨Qi,db,oU⟩:=H.bE (x:=x) (by rw[aH];simp[Op.operands]) ad;obtain⟨r5,a7,ba⟩:=H.bE (x:=hi) (by rw[aH];simp[Op.operands]) gB;obtain⟨Ao,cn,bQ⟩:=H.bE (x:=mx) (by rw[aH];simp[Op.operands]) iu;rw[ba.int]at a7;rw[bQ.int]at cn;simp only[aU]at oU;obtain⟨a,a4,rfl⟩:=oU;refine aaj aH av he db a7 cn bW cY (k _ (.val ?_));simp only[aU];refine⟨a,a4,?_⟩;rw[bR (by omega),k9,eP _ rfl];simp
 ·rename_i sz hH z e id off a7 n cy bc gG gh av ad gB iu;obtain⟨aF,he,ef⟩:=cp h;obtain⟨ag,fl⟩:=fW ef;simp only[cz]at ag;obtain⟨bW,cY,hp⟩:=ag;cases fl;have bW:=bJ bW;have cY:=bJ cY;have hp:0+1<=gh:=bJ hp;obtain⟨Qi,db,oU⟩:=H.bE (x:=x) (by rw[aH];simp[Op.operands]) ad;obtain⟨r5,a7,ba⟩:=H.bE (x:=hi) (by rw[aH];simp[Op.operands]) gB;obtain⟨Ao,cn,bQ⟩:=H.bE (x:=mx) (by rw[aH];simp[Op.operands]) iu;rw[ba.int]at a7;rw[bQ.int]at cn;simp only[aU]at oU;obtain⟨a,a4,bm,rfl⟩:=oU;refine aaj aH av he db a7 cn bW (by omega) (k _ (.val ?_));simp only[aU];refine⟨a,a4,?_⟩;rw[bR (by omega),k9,eP _ rfl];simp
 ·cases h
def al8(ak:∀ d,o.dst=some d->d<X.n){v:ap}(aH:o.op=.unOp .xor t x)(h:Ri (dj al x)=some v)(H:jl D F al o.op.operands.toList)(k:∀ x,gp D x v->K (put o.dst x F) C I M):gW X o F C I M K:=by
 unfold Ri at h;split at h
 ·rename_i n ad;cases h;obtain⟨u,e,hu⟩:=H.bE (x:=x) (by rw[aH];simp[Op.operands]) ad;rw[hu.int]at e;have q:bz X o F C I M K:=bz.G0 aH ak e (k _ (.val (by simp only[aU])));obtain⟨dst,CD,ty,pos,after,guard⟩:=o;simp only at aH;subst aH;exact q
 ·cases h
def al9(aH:o.op=.slice t x (some lo) (some hi) (some mx))(k:bz X o F C I M K):gW X o F C I M K:=by
 obtain⟨dst,CD,ty,pos,after,guard⟩:=o;simp only at aH;subst aH;simp only[gW,cG];split
 ·rename_i e;cases e
 ·rename_i e;cases e
 ·split
  ·rename_i e _;cases e
  ·exact k
 ·exact k
def aak:Op->Bool
 | .makeMap .. | .lookup .. | .mapUpdate .. | .insert ..=>true| .call { callee:=.builtin .append,.. }=>true| .call { callee:=.builtin .copy,.. }=>true| .call { callee:=.builtin .unsafeString,.. }=>true| _=>false
def Ar(aH:o.op=op)(h:aak op=true)(k:bz X o F C I M K):gW X o F C I M K:=by
 obtain⟨dst,CD,ty,pos,after,guard⟩:=o;simp only at aH;subst aH;unfold aak at h;split at h<;>first | exact k | cases h
def ama(aO:cT X.P X.E)(ak:∀ d,o.dst=some d->d<X.n)(h:Rq (dN X G pr) m o al=some (v,m'))(H:jl D F al o.op.operands.toList)(hm:c9 (dN X G pr) D m I M)(k:r6 X G pr D m I M v m' o.dst F C K):gW X o F C I M K:=by
 unfold Rq at h;split at h
 ·rename_i t x y aH;exact alH aH h H hm k
 ·rename_i t aH;exact Ar aH rfl (Z8 aO ak aH h (by simp) hm k)
 ·rename_i t x aH;split at h
  ·rename_i gh n ad;refine Ar aH rfl (Z8 aO ak aH h (λy aE=>?_) hm k);cases aE;obtain⟨u,aG,a8⟩:=H.bE (x:=x) (by rw[aH];simp[Op.operands]) ad;rw[a8.int]at aG;exact⟨_,_,aG⟩
  ·cases h
 ·rename_i t x y ok aH;exact Ar aH rfl (alJ aO ak aH h H hm k)
 ·rename_i t x y z aH;exact Ar aH rfl (Z' aO (.inl aH) h H hm k)
 ·rename_i t x y z aH;exact Ar aH rfl (Z' aO (.inr aH) h H hm k)
 ·rename_i s d x aH;have R':=alL aO ak aH h H hm k;obtain⟨dst,CD,ty,pos,after,guard⟩:=o;simp only at aH;subst aH;have qD:∃ a b z,X.E d=some ⟨a,b,z,.string⟩:=by
   unfold LQ at h;split at h;·exact⟨_,_,_,by assumption⟩
   ·exact⟨_,_,_,by assumption⟩
   ·exact⟨_,_,_,by assumption⟩
   ·cases h
  obtain⟨a,b,z,qD⟩:=qD;simp only[gW,cG,qD];split;·rename_i e _;cases e
  ·exact R'
 ·rename_i b args fK aH;have Sa:jl D F al args.toList:=by rw[aH]at H;simpa[Op.operands,Call.operands]using H
  unfold Zm at h;split at h;·exact Ar aH rfl (al3 aO ak aH h Sa hm k)
  ·exact Ar aH rfl (alM aO ak aH h Sa hm k)
  ·exact Ar aH rfl (al4 aO ak aH h Sa hm k)
  ·cases h
 ·cases h
end
def Iu(Y:gN)(call:ap->List ap->bp->Option (ap×bp)):Prop:=∀ f l m v m',call f l m=some (v,m')->∀ (D:bP) (I:aJ) (M:List aD) (u:Value) (us:List Value),aU D f u->bM D l us->c9 Y D m I M -> (∃ g cQ cs,u=.func (.func g) cQ cs/\Spec Y.P g (cQ.toList++us++cs.toList) I M λr I' M'=>∃ bC,D.ext bC m.n/\aU bC v r/\c9 Y bC m' I' M') \/ ∃ q,u=.func (.yield q) #[] #[]/\DN Y.P q us I M λr I' M'=>∃ bC,D.ext bC m.n/\aU bC v r/\c9 Y bC m' I' M'
def vm(dst:Option Nat)(v:ap)(D:bP)(F dm:Fr):Prop:=(∀ d,dst=some d->gp D (dm d) v)/\∀ (D:bP) t r4,dst≠some t->gp D (F t) r4->gp D (dm t) r4
def vm.put{v:ap}{x:dA}(F:Fr)(h:gp D x v):vm dst v D F (put dst x F):=by
 constructor
 ·rintro d rfl;simpa[Go.V.put,fZ]using h
 ·intro D t r4 bt h;cases dst with
  |none=>exact h| some d=>have:t≠d:=λe=>bt (by rw[e]);simp only[Go.V.put,fZ,hs this,b'];exact h
def Ak.v(h:Ak dst u F dm){v:ap}(ah:aU D v u):vm dst v D F dm:=⟨λd ak=>by rw[h.1 d ak];exact .val ah,h.2⟩
section
variable{X:cU}{G:GT}{pr:lW}{D:bP}{m m':bp}{F:Fr}{al:bf ap}{C:dC}{I:aJ}{M:List aD}{K:gi}{o:Oper}{v:ap}
def Mg(X:cU)(G:GT)(pr:lW)(o:Oper)(al:bf ap)(m:bp)(v:ap)(m':bp):Prop:=m.n<=m'.n/\∀ (D:bP) (F:Fr) (C:dC) (I:aJ) (M:List aD) (K:gi),jl D F al o.op.operands.toList->c9 (dN X G pr) D m I M -> (∀ bC dm C' I' M',D.ext bC m.n->vm o.dst v bC F dm->c9 (dN X G pr) bC m' I' M'->K dm C' I' M')->gW X o F C I M K
def amb(aH:o.op=op)(ae:lB X.E op=0)(h:cG X op (dk F) C I M (λx=>K (put o.dst x F) C I M) (bz X o F C I M K)):gW X o F C I M K:=by
 obtain⟨dst,CD,ty,pos,after,guard⟩:=o;simp only at aH;subst aH;cases CD with
 |call c=>
  obtain⟨callee,args,fK⟩:=c;cases callee with
  |value f=>simp[lB]at ae| invoke r n=>exact h| builtin b=>exact h
 |alloc t=>simp[lB]at ae| box t x=>simp[lB]at ae| store t x y=>simp[lB]at ae| buildSlice t l ps=>simp[lB]at ae| makeSlice t l c=>simp[lB]at ae| _=>exact h
def aal(aO:cT X.P X.E)(ak:∀ d,o.dst=some d->d<X.n){v:ap}(ae:lB X.E o.op=0)(h:vd X.P X.E G m.t o.op al=some v)(H:jl D F al o.op.operands.toList)(hm:c9 (dN X G pr) D m I M)
  (k:∀ x,gp D x v->K (put o.dst x F) C I M):gW X o F C I M K:=by
 unfold vd at h;split at h
 ·rename_i t x aH;exact al8 ak aH h H k
 ·rename_i t x lo hi mx aH;exact al9 aH (al6 aO ak aH h H hm k)
 ·rename_i t x hi mx aH;exact al7 aO ak aH h H hm k
 ·exact amb rfl ae (alv aO h H hm k)
def Sb{K:bf ap->Option R}{r:R}(h:pS dst al v K=some r):∃ c6,K c6=some r/\(dst=none->c6=al)/\∀ d,dst=some d->∀ t w,c6.get t=some w->(t=d/\w=v)\/(t≠d/\al.get t=some w):=by
 unfold pS at h;cases dst with
 |none=>exact⟨al,h,λ_=>rfl,λd ak=>by cases ak⟩
 |some d=>
  have bc:(Rj v λv=>al.nO (some v) d K)=some r:=h;rw[akK]at bc;obtain⟨c6,aa,ab⟩:=bf.o1 (some v) al d;rw[aa]at bc;refine⟨c6,bc,(λe=>by cases e),λgM ak t w hw=>?_⟩;cases ak;rcases ab t w hw with⟨aG,a7⟩ | ⟨aG,a7⟩;·exact .inl ⟨aG,(o3 a7).symm⟩
  ·exact .inr ⟨aG,a7⟩
def aam(aO:cT X.P X.E)(ko:∀ d,d<X.n->X.gC.contains d=true)(ak:∀ d,o.dst=some d->d<X.n)(mY:Iu (dN X G pr) call){K:bf ap->bp->Option R}{r:R}
  (h:z9 (dN X G pr) call o al m K=some r):∃ v m' c6,Mg X G pr o al m v m'/\(pS o.dst al v λal=>K al m')=some r/\K c6 m'=some r/\(o.dst=none->c6=al)/\∀ d,o.dst=some d->∀ t w,c6.get t=some w->(t=d/\w=v)\/(t≠d/\al.get t=some w):=by
 have fin:∀ {v:ap} {m':bp},Mg X G pr o al m v m'->(pS o.dst al v λal=>K al m')=some r->∃ v m' c6,Mg X G pr o al m v m'/\(pS o.dst al v λal=>K al m')=some r/\K c6 m'=some r/\(o.dst=none->c6=al)/\∀ d,o.dst=some d->∀ t w,c6.get t=some w->(t=d/\w=v)\/(t≠d/\al.get t=some w):=fun {v m'} an aC=>by obtain⟨c6,aa,ab,aj⟩:=Sb aC;exact⟨v,m',c6,an,aC,aa,ab,aj⟩
 unfold z9 at h;split at h
 ·
  rename_i f args fK aH;unfold Zn at h;obtain⟨ub,aA,h⟩:=cp h;obtain⟨l,ay,h⟩:=cp h;obtain⟨⟨v,m'⟩,an,h⟩:=cp h;obtain⟨aB,h⟩:=fW h;refine fin ⟨bJ aB,λD F C I M K sZ hm ae=>?_⟩ h;rw[aH]at sZ;obtain⟨u,aG,a8⟩:=sZ.bE (x:=f) (by simp[Op.operands,Call.operands]) aA;obtain⟨us,a7,ba⟩:=sZ.mP (l:=args.toList) (by intro y aE;simp[Op.operands,Call.operands];exact .inr (by simpa using aE)) ay;obtain⟨dst,CD,ty,pos,after,guard⟩:=o;simp only at aH;subst aH;rcases mY _ _ _ _ _ an D I M u us a8 ba hm with⟨g,cQ,cs,rfl,ar⟩ | ⟨q,rfl,ar⟩
  ·simp only[gW,aG,a7];exact be.whole _ ar λr I' M' bw ad=>by obtain⟨bC,aa,ab,aj⟩:=ad;exact ae bC _ C I' M' aa (.put F (.val ab)) aj
  ·simp only[gW,aG,a7];refine bz.yield rfl ak aG a7 ⟨M,[],_,by simp,ar,λr I' M' bw ad=>?_⟩;obtain⟨bC,aa,ab,aj⟩:=ad;rw[ee];exact ae bC _ C I' M' aa (.put F (.val ab)) aj
 ·rename_i op ea;unfold Zr at h;split at h
  ·rename_i kV;unfold Zp at h;obtain⟨v,ah,h⟩:=cp h;refine fin ⟨ca _,λD F C I M K sZ hm ae=>?_⟩ h;exact aal aO ak kV ah sZ hm λx ad=>ae D _ C I M bP.o5 (.put F ad) hm
  ·unfold Zo at h;obtain⟨d,fk,h⟩:=cp h;obtain⟨⟨l,T,c,mk⟩,a4,h⟩:=cp h;obtain⟨m2,ab,aB,aj⟩:=RU (Y:=dN X G pr) h;refine fin (v:=mk m.n) (m':=m2) ⟨by omega,λD F C I M K sZ hm ae=>?_⟩ (by rw[fk];exact ab);refine Z0 aO ko ak a4 (by rw[fk];rfl) sZ λb vs u dm C' bw aA iL c2 an hu Hz=>?_;have aI:=aj (vs:=vs) [] (b:=b) (c:=c) hm aA iL (by simpa using c2) an;rw[ee]at aI;exact ae _ dm C' I _ bP.E7 (Hz.v (hu _ _ (bP.pU _ _ _))) aI
  ·unfold Zq at h;obtain⟨⟨v,m'⟩,ad,h⟩:=cp h;obtain⟨aB,h⟩:=fW h;refine fin ⟨bJ aB,λD F C I M K sZ hm ae=>?_⟩ h;exact ama aO ak ad sZ hm λbC u M' aa ab aj=>ae bC _ C I M' aa (.put F (.val ab)) aj
end
def lD(X:cU)(G:GT)(pr:lW)(D0:bP)(n0:Nat)(al:bf ap)(m:bp)(a:Act)(w:World):Prop:=
 ∃ D F C I M,Rel X a w F C I M/\qS D F al/\c9 (dN X G pr) D m I M/\D0.ext D n0/\n0<=m.n
section
variable{X:cU}{G:GT}{pr:lW}{D0:bP}{n0:Nat}{m m':bp}{al c6:bf ap}{a:Act}{w:World}
def bP.aan{n:Nat}(h:D.ext bC n)(bc:bC.ext Mb hS)(aB:n<=hS):D.ext Mb n:=λi hi=>by rw[bc i (by omega),h i hi]
def amc{ops:Array Oper}{o:Oper}(h:vf ops.toList o al=some b)(bG:∀ t,eT β (F t) (a.tmps.getD t undef))(xz:qS D F al):Region.wanted o (yielded ops a.tmps)=b:=by
 unfold vf at h;split at h
 ·rename_i au;cases h;simp[Region.wanted,au]
 ·rename_i j c au;split at h
  ·cases h
  ·rename_i d ai;have ix:(ops[j]?).bind (·.dst)=some d:=by rw[Ae]at ai;simpa using ai
   have aE:=Gh ix a.tmps;split at h
   ·rename_i q aR;cases h;have ar:=xz _ _ aR;have ah:a.tmps.getD d undef=.bool q:=by
     have aa:=bG d;rcases ar with⟨u,e,hu⟩ | ⟨e0,cX,e⟩;·rw[e]at aa;rw[aa,hu.bool]
     ·cases cX;rw[e]at aa;exact aa
    simp[Region.wanted,au,aE,DE ah]
   ·rename_i l aR;cases h;have ar:=xz _ _ aR;obtain⟨u,e,hu⟩:=ar.wJ (by simp);obtain⟨vs,_,rfl⟩:=hu.RG;have aa:=bG d;rw[e]at aa;have uC:yielded ops a.tmps j=none:=by
     rw[aE];cases kq:a.tmps[d]? with
     |none=>rfl| some v=>simp only[eT,pi,kq,kk]at aa;subst aa;rfl
    simp[Region.wanted,au,uC]
   ·cases h
def aao{o:Oper}{K:bf ap->Option R}{r:R}(h:Cr o al K=some r):∃ c6,K c6=some r/\(o.dst=none->c6=al)/\∀ d,o.dst=some d->∀ t w,c6.get t=some w->(t=d/\w=.t [])\/(t≠d/\al.get t=some w):=by
 unfold Cr at h;cases ak:o.dst with
 |none=>rw[ak]at h;exact⟨al,h,λ_=>rfl,λd e=>by cases e⟩
 |some d=>
  rw[ak]at h;obtain⟨c6,aa,ab⟩:=bf.o1 (some (ap.t [])) al d;simp only[aa]at h;refine⟨c6,h,(λe=>by cases e),λgM fz t w hw=>?_⟩;cases fz;rcases ab t w hw with⟨aG,a7⟩ | ⟨aG,a7⟩;·exact .inl ⟨aG,(o3 a7).symm⟩
  ·exact .inr ⟨aG,a7⟩
def qS.step{v:ap}(h:qS D F al)(bm:D.le bC)(aC:vm dst v bC F dm)(aa:dst=none->c6=al)(ab:∀ d,dst=some d->∀ t w,c6.get t=some w->(t=d/\w=v)\/(t≠d/\al.get t=some w)):qS bC dm c6:=λt u av=>by
 cases ak:dst with
 |none=>rw[aa ak]at av;exact aC.2 bC t u (by rw[ak];simp) ((h t u av).mono bm)
 |some d=>
  rcases ab d ak t u av with⟨rfl,rfl⟩ | ⟨bt,au⟩;·exact aC.1 _ ak
  ·exact aC.2 bC t u (by rw[ak];intro e;cases e;exact bt rfl) ((h t u au).mono bm)
def Sc(aO:cT X.P X.E)(ko:∀ d,d<X.n->X.gC.contains d=true){call:ap->List ap->bp->Option (ap×bp)}(mY:Iu (dN X G pr) call)(ops:Array Oper)(Q:Exit->Act->World->Prop)(q':∀ a w,lD X G pr D0 n0 c6 m' a w->Q .normal a w):∀ (l:List Oper) (k:Nat),(∀ j,l[j]?=ops[k+j]?)->(∀ o∈l,∀ d,o.dst=some d->d<X.n)->∀ {al m a w},ES (dN X G pr) call ops.toList l al m=some (c6,m') -> lD X G pr D0 n0 al m a w->wpOpsIn (g8 X) 0 X.P ops Q (List.range' k l.length) a w
 |[],k,_,_,al,m,a,w,h,ar=>by have bc:some (al,m)=some (c6,m'):=h;cases bc;exact q' _ _ ar
 |o::bj,k,ay,ak,al,m,a,w,h,ar=>by
  have az:ops[k]?=some o:=by simpa using(ay 0).symm
  have po:∀ j,bj[j]?=ops[k+1+j]?:=λj=>by have:=ay (j+1);simpa[tf,Dv 1 j]using this
  have fz:∀ o∈bj,∀ d,o.dst=some d->d<X.n:=λo aH=>ak o (by simp[aH]);have y6:=ak o (by simp);have bc:bo (vf ops.toList o al) none (λw=>bY w (z9 (dN X G pr) call o al m λal m=>ES (dN X G pr) call ops.toList bj al m) (Cr o al λal=>ES (dN X G pr) call ops.toList bj al m))=some (c6,m'):=h;obtain⟨b,ag,bc⟩:=cp bc;obtain⟨D,F,C,I,M,⟨β,aV⟩,bG,hm,ad,aB⟩:=ar;have hw:=amc ag aV.al bG;simp only[dx,F8,wpOpsIn,az];rw[hw];cases b with
  |true=>have ab:z9 (dN X G pr) call o al m (λal m=>ES (dN X G pr) call ops.toList bj al m)=some (c6,m'):=bc;obtain⟨v,c5,fB,⟨Mh,Iv⟩,-,aj,a8,ba⟩:=aam aO ko y6 mY ab;simp only[pk];refine te (λbO w'=>?_) (DD aO y6 ⟨β,aV⟩ (Iv D F C I M (λdm C' I' M'=>∃ bC,D.ext bC m.n/\qS bC dm fB/\c9 (dN X G pr) bC c5 I' M') (bG.op _) hm λbC dm C' I' M' aG a7 cn=>⟨bC,aG,bG.step (hm.le aG) a7 a8 ba,cn⟩));rintro⟨dm,C',I',M',eY,bC,aG,a7,cn⟩;exact Sc aO ko mY ops Q q' bj (k+1) po fz aj ⟨bC,dm,C',I',M',eY,a7,cn,bP.aan ad aG aB,k' aB Mh⟩
  |false=>have ab:Cr o al (λal=>ES (dN X G pr) call ops.toList bj al m)=some (c6,m'):=bc;obtain⟨fB,aj,a8,ba⟩:=aao ab;simp only[k8,lM];refine⟨λ_ _=>trivial,Sc aO ko mY ops Q q' bj (k+1) po fz aj ⟨D,put o.dst (.val undef) F,C,I,M,⟨β,aV.put (x:=.val undef) y6 rfl⟩,bG.step (bP.le_refl D) (.put F (.val .undef)) a8 ba,hm,ad,aB⟩⟩
end
def amd(aX:∀ j e,mV ops j e->e<j)(J:(Nat->Prop)->Act->World->Prop)(step:∀ (L:Nat->Prop) a w q o,J L a w->Bz ops L->(∀ i,L i->i<ops.length)->ops[q]?=some o->¬ L q->(∀ e,mV ops q e->L e) -> (Region.wanted o (yielded ops.toArray a.tmps)=true->o.wpIn (g8 X) 0 X.P a w (J λj=>L j\/j=q) Q)/\(Region.wanted o (yielded ops.toArray a.tmps)=false->J (λj=>L j\/j=q) (a.put o.dst undef) w))
  (fin:∀ a w,J (λi=>i<ops.length) a w->Q .normal a w):∀ (e3:Nat) (du:Array Bool) (a:Act) (w:World),du.size=ops.length->todo ops du<=e3->Bz ops (λi=>du.getD i false=true) ->
   J (λi=>du.getD i false=true) a w->wpAnyIn (g8 X) 0 X.P .any ops.toArray Q e3 du a w:=by
 have fH:∀ (du:Array Bool) (i:Nat),du.getD i false=true->i<du.size:=λdu i h=>by refine Gt λaB=>?_;simp[Array.getD,aB]at h
 have full:∀ (du:Array Bool) a w,du.size=ops.length->Region.ready .any ops.toArray du=[]->J (λi=>du.getD i false=true) a w->Q .normal a w:=λdu a w df oG bk=>by
  have all:∀ i,i<ops.length->du.getD i false=true:=λi=>by
   induction i using Nat.strongRecOn with
   |ind i aL=>
    intro hi;refine Gt λaB=>?_;have aH:ops[i]?=some ops[i]:=dg hi;have:i∈Region.ready .any ops.toArray du:=(mem_ready df).2 ⟨_,aH,aB,λe he=>by
     have aa:=aX i e he;exact aL e aa (by omega)⟩
    rw[oG]at this;cases this
  have e:(λi=>du.getD i false=true)=λi=>i<ops.length:=by funext i;simp only[eq_iff_iff];exact⟨λh=>by have:=fH du i h;omega,all i⟩
  rw[e]at bk;exact fin a w bk
 intro e3
 induction e3 with
 |zero=>
  intro du a w df aA dX bk;have oG:Region.ready .any ops.toArray du=[]:=by
   cases af:Region.ready .any ops.toArray du with
   |nil=>rfl| cons i l=>obtain⟨o,aH,aB,_⟩:=(mem_ready df).1 (by rw[af];simp:i∈Region.ready .any ops.toArray du);have:=Ki (ia.1 aH).1 df aB;omega
  exact⟨oG,full du a w df oG bk⟩
 |succ e3 aL=>
  intro du a w df aA dX bk;refine⟨λoG=>full du a w df oG bk,λq aR=>?_⟩;obtain⟨o,aH,aB,ak⟩:=(mem_ready df).1 aR;have cj:=(ia.1 aH).1;have g0:=VL (du:=du) (i:=q) (by omega);have next:∀ bO w',J (λj=>du.getD j false=true\/j=q) bO w'->wpAnyIn (g8 X) 0 X.P .any ops.toArray Q e3 (du.setIfInBounds q true) bO w':=λbO w' h=>by
   refine aL _ bO w' (by simpa using df) ?_ ?_ (by rw[g0];exact h);·have:=Ki cj df aB;omega
   ·rw[g0];rintro j e (ai | rfl) he
    ·exact .inl (dX j e ai he)
    ·exact .inl (ak e he)
  obtain⟨s1,s2⟩:=step _ a w q o bk dX (λi hi=>by have:=fH du i hi;omega) aH aB ak;have GI:ops.toArray[q]?=some o:=by simpa using aH
  unfold wpOpIn;simp only[GI];cases hw:Region.wanted o (yielded ops.toArray a.tmps)with
  |true=>
   simp only[pk];exact te next (s1 hw)
  |false=>simp only[k8,lM];exact⟨λ_ _=>trivial,next _ _ (s2 hw)⟩
def aap{S:List bp}{lo hi:Nat}{p:bp->Bool}{m:bp}(h:EV S lo hi p=true)(aa:lo<=j)(ab:j<=hi)(ai:S[j]?=some m):p m=true:=by unfold EV at h;refine fy.1 h m ?_;refine st (i:=j-lo) ?_;rw[k7,bN (by omega),nX,show lo+(j-lo)=j by omega];exact ai
def filter_le{p:α->Bool}:∀ {l:List α},(∀ q e,l[q]?=some e->p e=true->q<j)->(l.filter p).length<=j:=by
 intro l h;have aG:l.filter p=(l.take j).filter p:=by
  conv=>lhs;rw[<-rG j l]
  rw[yb];have:(l.drop j).filter p=[]:=by rw[RP];intro a a4 aC;obtain⟨q,aR⟩:=Lo a4;rw[nX]at aR;have:=h _ _ aR aC;omega
  rw[this,ee]
 rw[aG];refine k' (Bv _ _) ?_;simp;omega
def le_filter{p:α->Bool}{l:List α}(ai:j<=l.length)(h:∀ q e,q<j->l[q]?=some e->p e=true):j<=(l.filter p).length:=by
 have aG:(l.take j).filter p=l.take j:=by
  rw[List.filter_eq_self];intro a a4;obtain⟨q,aR⟩:=Lo a4;rw[k7]at aR;split at aR;·exact h q a (by assumption) aR
  ·cases aR
 have a7:l.filter p=(l.take j).filter p++(l.drop j).filter p:=by
  conv=>lhs;rw[<-rG j l]
  rw[yb]
 rw[a7,aG,ch,hx];omega
mutual
def aaq{D:bP}:∀ {x y:ap} {u:Value},EU x y=true->aU D x u->aU D y u
 |x,y,u,h,ad=>by
  cases x<;>cases y<;>simp only[EU,k8,cz]at h
  case b.b=>
   have:=eq_of_beq h;subst this;exact ad
  case i.i=>
   obtain⟨aa,ab⟩:=h;have:=IntKind.DB aa;subst this;rw[Ct,hV]at ab;subst ab;exact ad
  case s.s=>
   rw[EY,hV]at h;subst h;exact ad
  case pn.pn=>exact ad
  case p.p=>
   obtain⟨aa,ab⟩:=h;have:=dP aa;subst this;have:=dP ab;subst this;exact ad
  case g.g=>
   obtain⟨aa,ab⟩:=h;have:=dP aa;subst this;have:=dP ab;subst this;exact ad
  case sn.sn=>exact ad
  case sl.sl=>
   obtain⟨aa,ab,aj,aI⟩:=h;have:=dP aa;subst this;have:=dP ab;subst this;have:=dP aj;subst this;have:=dP aI;subst this;exact ad
  case sx.sx=>
   obtain⟨aa,ab,aj,aI⟩:=h;have:=dP aa;subst this;have:=dP ab;subst this;have:=dP aj;subst this;have:=dP aI;subst this;exact ad
  case gs.gs=>
   obtain⟨aa,ab,aj,aI⟩:=h;have:=dP aa;subst this;have:=dP ab;subst this;have:=dP aj;subst this;have:=dP aI;subst this;exact ad
  case mn.mn=>exact ad
  case m.m=>have:=dP h;subst this;exact ad
  case f.f=>
   obtain⟨aa,ab,aj⟩:=h;have:=dP aa;subst this;simp only[aU]at ad |-;obtain⟨vs,ws,a8,ba,bQ⟩:=ad;exact⟨vs,ws,E' ab a8,E' aj ba,bQ⟩
  case y.y=>have:=dP h;subst this;exact ad
  case fn.fn=>exact ad
  case ni.ni=>exact ad
  case t.t=>
   simp only[aU]at ad |-;obtain⟨vs,a8,ba⟩:=ad;exact⟨vs,E' h a8,ba⟩
  case a.a=>
   simp only[aU]at ad |-;obtain⟨vs,a8,ba⟩:=ad;exact⟨vs,E' h a8,ba⟩
def E'{D:bP}:∀ {x y:List ap} {us:List Value},wI x y=true->bM D x us->bM D y us
 |[],[],us,h,ad=>ad| [],_::_,us,h,ad=>by simp[wI]at h
 |_::_,[],us,h,ad=>by simp[wI]at h
 |x::l,y::m,us,h,ad=>by simp only[wI,cz]at h;obtain⟨u,us,a8,ba,rfl⟩:=ad.kF;exact .cons (aaq h.1 a8) (E' h.2 ba)
end
def Iw(dst:Option Nat)(al:bf ap)(v:ap)(c6:bf ap):Prop:=(dst=none->c6=al)/\∀ d,dst=some d->∀ t w,c6.get t=some w->(t=d/\w=v)\/(t≠d/\al.get t=some w)
def Mi(m m':bp)(l:List ap)(T:Nat):Prop:=m'.n=m.n+1/\(∀ id e,m'.t.get id=some e->id=m.n\/m.t.get id=some e)
def yr(m m':bp):Prop:=m.n<=m'.n/\∀ id e,id<m.n->m'.t.get id=some e->m.t.get id=some e
def yr.refl(m:bp):yr m m:=⟨ca _,λ_ _ _ h=>h⟩
def yr.trans{a b c:bp}(h:yr a b)(k:yr b c):yr a c:=⟨k' h.1 k.1,λid e hi he=>h.2 id e hi (k.2 id e (JP hi h.1) he)⟩
def Mi.grow{m m':bp}{l:List ap}{T:Nat}(h:Mi m m' l T):yr m m':=⟨by rw[h.1];omega,λid e hi he=>by
 rcases h.2 id e he with aa | aa
 ·omega
 ·exact aa⟩
def ame{m:bp}{l:List ap}{T:Nat}{K:Nat->bp->Option R}{r:R}(h:ve m l T K=some r):∃ m',K m.n m'=some r/\Mi m m' l T:=by unfold ve at h;obtain⟨cs,aa,ab⟩:=bf.yl l (.nil:bf ap) 0;rw[aa]at h;obtain⟨bq,aj,aI⟩:=Ip h;exact⟨_,aI,rfl,λid e hi=>(aj id e hi).imp (λq=>q.1) λq=>q.2⟩
def c9.grow{m m':bp}(h:c9 Y D m I M)(au:yr m m'):c9 Y D m' I M where
 iU id e a aa ab:=h.iU id e a (au.2 id e (h.jS _ _ ab) aa) ab
 inj id iV e cX a bO aa tz ab oK ag:=h.inj id iV e cX a bO (au.2 id e (h.jS _ _ ab) aa) (au.2 iV cX (h.jS _ _ oK) tz) ab oK ag
 jS id a ab:=JP (h.jS _ _ ab) au.1
 qR:=h.qR
inductive lZ(X:cU)(G:GT)(pr:lW)(ops:List Oper):List (Nat×Nat)->bf ap->bp->List (Nat×ap)->bf ap->bp->List bp->List qQ->Prop
 |nil{al m}:lZ X G pr ops [] al m [] al m [m] []| q {i o bj al m v c6 vs g5 gO S A} (aH:ops[i]?=some o) (ae:lB X.E o.op=0) (hw:vf ops o al=some true) (ah:vd X.P X.E G m.t o.op al=some v) (aC:Iw o.dst al v c6) (t:lZ X G pr ops bj c6 m vs g5 gO S A) : lZ X G pr ops ((i,0)::bj) al m ((i,v)::vs) g5 gO S (bif qi o.op then .load i o al v::A else A)| a {i o d bj al m m' l T c mk c6 vs g5 gO S A} (aH:ops[i]?=some o) (ae:lB X.E o.op=1) (hw:vf ops o al=some true) (ak:o.dst=some d) (ah:Cq X.E o al=some (l,T,c,mk)) (aB:Mi m m' l T) (aC:Iw o.dst al (mk m.n) c6) (t:lZ X G pr ops bj c6 m' vs g5 gO S A) : lZ X G pr ops ((i,1)::bj) al m ((i,mk m.n)::vs) g5 gO S (.made i m.n l T::A)| e {i o bj al m m' v c6 vs g5 gO S A} (aH:ops[i]?=some o) (ae:lB X.E o.op=2) (hw:vf ops o al=some true) (an:Mg X G pr o al m v m') (aC:Iw o.dst al v c6) (t:lZ X G pr ops bj c6 m' vs g5 gO S A) : lZ X G pr ops ((i,2)::bj) al m ((i,v)::vs) g5 gO (m::S) A| skip {i k o bj al m c6 vs g5 gO S A} (aH:ops[i]?=some o) (ae:lB X.E o.op=k) (hw:vf ops o al=some false) (aC:Iw o.dst al (.t []) c6) (t:lZ X G pr ops bj c6 m vs g5 gO S A) : lZ X G pr ops ((i,k)::bj) al m ((i,.t [])::vs) g5 gO (bif Nat.beq k 2 then m::S else S) A
section
variable{X:cU}{G:GT}{pr:lW}{ops:List Oper}
def Ix(aO:cT X.P X.E)(ko:∀ d,d<X.n->X.gC.contains d=true)(hk:∀ o∈ops,∀ d,o.dst=some d->d<X.n){call:ap->List ap->bp->Option (ap×bp)}(mY:Iu (dN X G pr) call):∀ (row:List (Nat×Nat)) {al:bf ap} {m:bp} {mF:List bp} {od:List qQ} {g5:bf ap} {gO:bp} {ke:List bp} {nR:List qQ},o0 (dN X G pr) call ops row al m mF od=some (g5,gO,ke,nR)->∃ vs S A,lZ X G pr ops row al m vs g5 gO S A/\ke=S.reverse++mF/\(∀ h∈A,h∈nR)/\∀ h∈od,h∈nR
 |[],al,m,mF,od,g5,gO,ke,nR,h=>by simp only[o0,jY,KV]at h;obtain⟨rfl,rfl,rfl,rfl⟩:=h;exact⟨[],[m],[],.nil,by simp,by simp,λ_ h=>h⟩
 |(i,k)::bj,al,m,mF,od,g5,gO,ke,nR,h=>by
  simp only[o0]at h;obtain⟨o,aH,h⟩:=cp h;obtain⟨w,hw,h⟩:=cp h;obtain⟨ae,h⟩:=fW h;rw[Ae]at aH;have hd:lB X.E o.op=k:=dP ae;have y6:=hk o (st aH);cases w with
  |false=>
   have ab:Cr o al (λal=>o0 (dN X G pr) call ops bj al m (bY (Nat.beq k 2) (m::mF) mF) od)=some (g5,gO,ke,nR):=h;obtain⟨fB,aj,a8,ba⟩:=aao ab;obtain⟨vs,S,A,av,cO,dJ,vn⟩:=Ix aO ko hk mY bj aj;refine⟨_,_,_,.skip aH hd hw ⟨a8,ba⟩ av,?_,dJ,vn⟩;rw[cO];cases Nat.beq k 2<;>simp[bY]
  |true=>
   have aa:bY (Nat.beq k 0) (bo (vd X.P X.E G m.t o.op al) none λv=>pS o.dst al v λc6=>o0 (dN X G pr) call ops bj c6 m mF (bY (qi o.op) (.load i o al v::od) od)) (bY (Nat.beq k 1) (bo o.dst none λd=>bo (Cq X.E o al) none λr=>ve m r.1 r.2.1 λid m=>pS (some d) al (r.2.2.2 id) λal=>o0 (dN X G pr) call ops bj al m mF (.made i id r.1 r.2.1::od)) (z9 (dN X G pr) call o al m λal m'=>o0 (dN X G pr) call ops bj al m' (m::mF) od))=some (g5,gO,ke,nR):=h;by_cases HG:k=0
   ·subst HG;have ab:(bo (vd X.P X.E G m.t o.op al) none λv=>pS o.dst al v λc6=>o0 (dN X G pr) call ops bj c6 m mF (bY (qi o.op) (.load i o al v::od) od))=some (g5,gO,ke,nR):=aa;obtain⟨v,ah,ab⟩:=cp ab;obtain⟨fB,aj,a8,ba⟩:=Sb ab;obtain⟨vs,S,A,av,cO,dJ,vn⟩:=Ix aO ko hk mY bj aj;refine⟨_,_,_,.q aH hd hw ah ⟨a8,ba⟩ av,cO,λy aE=>?_,λy aE=>vn y ?_⟩
    ·cases ay:qi o.op with
     |false=>rw[ay]at aE;exact dJ y aE
     |true=>
      rw[ay]at aE;rcases ec.1 aE with rfl | aE;·refine vn _ ?_;rw[ay];simp[bY]
      ·exact dJ y aE
    ·cases qi o.op with
     |false=>exact aE| true=>exact nQ _ aE
   rw[hs HG]at aa;by_cases eg:k=1
   ·subst eg;have ab:(bo o.dst none λd=>bo (Cq X.E o al) none λr=>ve m r.1 r.2.1 λid m=>pS (some d) al (r.2.2.2 id) λal=>o0 (dN X G pr) call ops bj al m mF (.made i id r.1 r.2.1::od))=some (g5,gO,ke,nR):=aa;obtain⟨d,ak,ab⟩:=cp ab;obtain⟨⟨l,T,c,mk⟩,a4,ab⟩:=cp ab;obtain⟨m2,aj,aB⟩:=ame ab;have sR:pS o.dst al (mk m.n) (λal=>o0 (dN X G pr) call ops bj al m2 mF (.made i m.n l T::od))=some (g5,gO,ke,nR):=by rw[ak];exact aj
    obtain⟨fB,aI,a8,ba⟩:=Sb sR;obtain⟨vs,S,A,av,cO,dJ,vn⟩:=Ix aO ko hk mY bj aI;refine⟨_,_,_,.a aH hd hw ak a4 aB ⟨a8,ba⟩ av,cO,λy aE=>?_,λy aE=>vn y (nQ _ aE)⟩;rcases ec.1 aE with rfl | aE;·exact vn _ (by simp)
    ·exact dJ y aE
   ·rw[hs eg]at aa;have ab:z9 (dN X G pr) call o al m (λal m'=>o0 (dN X G pr) call ops bj al m' (m::mF) od)=some (g5,gO,ke,nR):=aa;obtain⟨v,c5,fB,Iv,-,aj,a8,ba⟩:=aam aO ko y6 mY ab;obtain⟨vs,S,A,av,cO,dJ,vn⟩:=Ix aO ko hk mY bj aj;have eN:k=2:=by
     have:lB X.E o.op<=2:=by
      unfold lB;split<;>first | omega | (split<;>first | omega | (split<;>omega))
     rw[hd]at this;omega
    subst eN;exact⟨_,_,_,.e aH hd hw Iv ⟨a8,ba⟩ av,by rw[cO];simp,dJ,vn⟩
def lZ.head{al g5:bf ap}{m gO:bp}{vs:List (Nat×ap)}{S:List bp}{A:List qQ}(h:lZ X G pr ops row al m vs g5 gO S A):∃ m2 ke,S=m2::ke/\yr m m2:=by
 induction h with
 |nil=>exact⟨_,_,rfl,.refl _⟩| q _ _ _ _ _ _ aL=>exact aL| a _ _ _ _ _ aB _ _ aL=>obtain⟨m2,ke,aa,ab⟩:=aL;exact⟨m2,ke,aa,aB.grow.trans ab⟩
 |e _ _ _ _ _ _ _=>exact⟨_,_,rfl,.refl _⟩
 | @skip i k o bj al m c6 vs g5 gO S A _ _ _ _ _ aL=>
  cases ae:Nat.beq k 2 with
  |true=>exact⟨_,_,rfl,.refl _⟩| false=>simpa using aL
def lZ.Mj{al g5:bf ap}{m gO:bp}{vs:List (Nat×ap)}{S:List bp}{A:List qQ}(h:lZ X G pr ops row al m vs g5 gO S A):m.n<=gO.n/\∀ i c l T,.made i c l T∈A->m.n<=c/\i∈row.map (·.1):=by
 induction h with
 |nil=>exact⟨ca _,λ_ _ _ _ h=>by cases h⟩
 | @q i o bj al m v c6 vs g5 gO S A _ _ _ _ _ _ aL=>
  refine⟨aL.1,λgU c l T hm=>?_⟩;have sw:.made gU c l T∈A:=by
   cases ay:qi o.op with
   |false=>rw[ay]at hm;exact hm
   |true=>
    rw[ay]at hm;rcases ec.1 hm with e | hm;·cases e
    ·exact hm
  exact⟨(aL.2 gU c l T sw).1,nQ _ (aL.2 gU c l T sw).2⟩
 |a _ _ _ _ _ aB _ _ aL=>
  refine⟨k' aB.grow.1 aL.1,λgU c l T hm=>?_⟩;rcases ec.1 hm with e | hm;·cases e;exact⟨ca _,by simp⟩
  ·exact⟨k' aB.grow.1 (aL.2 gU c l T hm).1,nQ _ (aL.2 gU c l T hm).2⟩
 |e _ _ _ an _ _ aL=>exact⟨k' an.1 aL.1,λgU c l T hm=>⟨k' an.1 (aL.2 gU c l T hm).1,nQ _ (aL.2 gU c l T hm).2⟩⟩| skip _ _ _ _ _ aL=>exact⟨aL.1,λgU c l T hm=>⟨(aL.2 gU c l T hm).1,nQ _ (aL.2 gU c l T hm).2⟩⟩
def lZ.split:∀ (a9:List (Nat×Nat)) {bj:List (Nat×Nat)} {al g5:bf ap} {m gO:bp} {vs:List (Nat×ap)} {S:List bp} {A:List qQ},lZ X G pr ops (a9++bj) al m vs g5 gO S A -> ∃ wR yt fB c5 vo yu wS,vs=wR++yt/\wR.map (·.1)=a9.map (·.1)/\S=vo++yu/\vo.length=(a9.filter λr=>Nat.beq r.2 2).length/\lZ X G pr ops bj fB c5 yt g5 gO yu wS/\(∀ h∈wS,h∈A)/\m.n<=c5.n /\ (∀ t w,fB.get t=some w->(∃ i,(i,w)∈wR/\jd ops i=some t)\/((∀ i∈a9.map (·.1),jd ops i≠some t)/\al.get t=some w)) /\ (∀ i c l T,.made i c l T∈A->.made i c l T∈wS\/c<c5.n)
 |[],bj,al,g5,m,gO,vs,S,A,h=>⟨[],vs,al,m,[],S,A,rfl,rfl,rfl,rfl,h,λ_ h=>h,ca _,λt w hw=>.inr ⟨by simp,hw⟩,λ_ _ _ _ h=>.inl h⟩
 |(i,k)::a9,bj,al,g5,m,gO,vs,S,A,h=>by
  have fin:∀ {o:Oper} {c6:bf ap} {m':bp} {v:ap} {tj:List (Nat×ap)} {ke S:List bp} {nR A:List qQ},ops[i]?=some o->Iw o.dst al v c6->m.n<=m'.n->lZ X G pr ops (a9++bj) c6 m' tj g5 gO ke nR -> (S=if Nat.beq k 2 then m::ke else ke)->(∀ h∈nR,h∈A)->(∀ i c l T,.made i c l T∈A->.made i c l T∈nR\/c<m'.n) ->
    ∃ wR yt fB c5 vo yu wS,(i,v)::tj=wR++yt/\wR.map (·.1)=((i,k)::a9).map (·.1)/\S=vo++yu/\vo.length=(((i,k)::a9).filter λr=>Nat.beq r.2 2).length/\lZ X G pr ops bj fB c5 yt g5 gO yu wS/\(∀ h∈wS,h∈A)/\m.n<=c5.n /\ (∀ t w,fB.get t=some w->(∃ i,(i,w)∈wR/\jd ops i=some t)\/((∀ gU∈((i,k)::a9).map (·.1),jd ops gU≠some t)/\al.get t=some w)) /\
     (∀ i c l T,.made i c l T∈A->.made i c l T∈wS\/c<c5.n):=by
   intro o c6 m' v tj ke S nR A aH aC Mh av cO dJ amf;obtain⟨wR,yt,fB,c5,vo,yu,wS,aG,a7,cn,dr,lq,l0,As,Iy,wT⟩:=lZ.split a9 av;refine⟨(i,v)::wR,yt,fB,c5,(if Nat.beq k 2 then m::vo else vo),yu,wS,by rw[aG];rfl,by simp[a7],?_,?_,lq,λh cS=>dJ h (l0 h cS),k' Mh As,λt w hw=>?_,λi c l T hm=>?_⟩
   ·rw[cO,cn];split<;>simp
   ·simp only[pu];split<;>simp[dr]
   ·rcases Iy t w hw with⟨gU,aa,ab⟩ | ⟨aa,ab⟩
    ·exact .inl ⟨gU,nQ _ aa,ab⟩
    ·have ql:jd ops i=o.dst:=by simp[jd,aH]
     cases ak:o.dst with
     |none=>
      rw[aC.1 ak]at ab;refine .inr ⟨λgU cZ=>?_,ab⟩;rcases ec.1 cZ with e | cZ;·rw[show gU=i from e,ql,ak];simp
      ·exact aa gU cZ
     |some d=>
      rcases aC.2 d ak t w ab with⟨rfl,rfl⟩ | ⟨bt,aj⟩;·exact .inl ⟨i,by simp,by rw[ql,ak]⟩
      ·refine .inr ⟨λgU cZ=>?_,aj⟩;rcases ec.1 cZ with e | cZ
       ·rw[show gU=i from e,ql,ak];exact λe=>bt (by cases e;rfl)
       ·exact aa gU cZ
   ·rcases amf i c l T hm with aa | aa
    ·exact wT i c l T aa
    ·exact .inr (JP aa As)
  cases h with
  |q aH ae hw ah aC t=>
   rename_i o v c6 tj nR;refine fin aH aC (ca _) t (by simp) (λh cS=>?_) λi c l T hm=>?_
   ·cases qi o.op with
    |false=>exact cS| true=>exact nQ _ cS
   ·cases ay:qi o.op with
    |false=>rw[ay]at hm;exact .inl hm
    |true=>
     rw[ay]at hm;rcases ec.1 hm with e | hm;·cases e
     ·exact .inl hm
  |a aH ae hw ak ah aB aC t=>
   refine fin aH aC aB.grow.1 t (by simp) (λh cS=>nQ _ cS) λi c l T hm=>?_;rcases ec.1 hm with e | hm;·cases e;exact .inr (by rw[aB.1];omega)
   ·exact .inl hm
  |e aH ae hw an aC t=>exact fin aH aC an.1 t (by simp) (λ_ h=>h) λ_ _ _ _ h=>.inl h
  |skip aH ae hw aC t=>exact fin aH aC (ca _) t (by cases Nat.beq k 2<;>rfl) (λ_ h=>h) λ_ _ _ _ h=>.inl h
end
section
variable{ops:List Oper}
def amg{i k:Nat}{o:Oper}(aH:ops[i]?=some o)(h:Gz o k=true):∀ e,mV ops i e->k.testBit e=true:=by rintro e⟨o',nz,ru,rq,ag,rfl⟩;rw[aH]at ru;cases ru;have:=fy.1 h nz (by simpa using rq);rw[ag]at this;simpa using this
def Mk:∀ {row:List (Nat×Nat)} {k:Nat},wH ops row k=true->∀ (a9:List (Nat×Nat)) (i c:Nat) (post:List (Nat×Nat)),row=a9++(i,c)::post -> (∃ o,ops[i]?=some o)/\k.testBit i=false/\i ∉ a9.map (·.1)/\∀ e,mV ops i e->k.testBit e=true\/e∈a9.map (·.1)
 |[],k,h,a9,i,c,post,e=>by simp at e
 |(i0,tN)::row,k,h,a9,i,c,post,e=>by
  simp only[wH,cz,to]at h;obtain⟨aa,ab⟩:=h;split at ab
  ·rename_i o aH;rw[cz]at ab;cases a9 with
   |nil=>simp only[iz,xU,KV]at e;obtain⟨⟨rfl,rfl⟩,rfl⟩:=e;exact⟨⟨o,aH⟩,aa,by simp,λe he=>.inl (amg aH ab.1 e he)⟩
   |cons p a9=>
    simp only[m4,xU]at e;obtain⟨aG,a7⟩:=e;obtain⟨a8,ba,bQ,ft⟩:=Mk ab.2 a9 i c post a7;have ag:∀ x,(k ||| 2^i0).testBit x=(k.testBit x||decide (x=i0)):=λx=>by rw[J8,J7];congr 1;exact decide_eq_decide.2 eq_comm
    rw[ag,sF]at ba;refine⟨a8,ba.1,?_,λe he=>?_⟩;·rw[<-aG];simp only[b0,ec,not_or];exact⟨by simpa using ba.2,bQ⟩
    ·rcases ft e he with h | h
     ·rw[ag,kQ]at h;rcases h with h | h
      ·exact .inl h
      ·exact .inr (by rw[<-aG];simp at h;simp[h])
     ·exact .inr (by rw[b0];exact nQ _ h)
  ·cases ab
def Sd:∀ {row:List (Nat×Nat)} {k:Nat},wH ops row k=true->∀ i,i<ops.length->k.testBit i=true\/i∈row.map (·.1)
 |[],k,h,i,hi=>by
  simp only[wH]at h;have:=dP h;subst this
  left
  rw[Nat.testBit_two_pow_sub_one];simpa using hi
 |(i0,tN)::row,k,h,i,hi=>by
  simp only[wH,cz,to]at h;obtain⟨aa,ab⟩:=h;split at ab
  ·rw[cz]at ab;rcases Sd ab.2 i hi with h | h
   ·rw[J8,J7,kQ]at h;rcases h with h | h
    ·exact .inl h
    ·have:i0=i:=by simpa using h
     exact .inr (by simp[this])
   ·exact .inr (by rw[b0];exact nQ _ h)
  ·cases ab
def amh(h:wH ops row 0=true):(row.map (·.1)).Nodup:=by
 have key:∀ {row:List (Nat×Nat)} {k:Nat},wH ops row k=true->(row.map (·.1)).Nodup:=by
  intro row
  induction row with
  |nil=>intro k _;exact Du
  |cons r row aL=>
   intro k h;obtain⟨i0,tN⟩:=r;have bc:=h;simp only[wH,cz,to]at h;obtain⟨aa,ab⟩:=h;split at ab;·rw[cz]at ab;rw[b0,lL];refine⟨λhm=>?_,aL ab.2⟩;obtain⟨⟨x,c⟩,ad,Iz⟩:=cN.1 hm;obtain⟨a9,post,e⟩:=vi ad;have Se:x=i0:=Iz;subst Se;have:=(Mk bc ((x,tN)::a9) x c post (by rw[e];rfl)).2.2.1;exact this (by simp)
   ·cases ab
 exact key h
def aar{α β:Type}:∀ {l:List (α×β)},(l.map (·.1)).Nodup->∀ {k:α} {a b:β},(k,a)∈l->(k,b)∈l->a=b
 |[],_,k,a,b,h,_=>by cases h
 |(HG,c)::l,aB,k,a,b,h,bc=>by
  rw[b0,lL]at aB;rcases ec.1 h with e | h
  ·cases e;rcases ec.1 bc with cX | bc
   ·cases cX;rfl
   ·exact(aB.1 (cN.2 ⟨_,bc,rfl⟩)).elim
  ·rcases ec.1 bc with cX | bc
   ·cases cX;exact(aB.1 (cN.2 ⟨_,h,rfl⟩)).elim
   ·exact aar aB.2 h bc
end
section
variable{X:cU}{G:GT}{pr:lW}{D0:bP}{n0:Nat}{a:Act}{w:World}
def Ml{o:Oper}{al:bf ap}(h:vf ops o al=some b)(bG:∀ t,eT β (F t) (a.tmps.getD t undef))(H:∀ t∈looks ops o,∀ v,al.get t=some v->gp D (F t) v) :
  Region.wanted o (yielded ops.toArray a.tmps)=b:=by
 unfold vf at h;split at h
 ·rename_i au;cases h;simp[Region.wanted,au]
 ·rename_i j c au;split at h
  ·cases h
  ·rename_i d ai;have ix:(ops[j]?).bind (·.dst)=some d:=by rw[Ae]at ai;simpa using ai
   have ami:(ops.toArray[j]?).bind (·.dst)=some d:=by simpa using ix
   have aE:=Gh ami a.tmps;have kt:d∈looks ops o:=ON au ix;split at h
   ·rename_i q aR;cases h;have ar:=H _ kt _ aR;have ah:a.tmps.getD d undef=.bool q:=by
     have aa:=bG d;rcases ar with⟨u,e,hu⟩ | ⟨e0,cX,e⟩;·rw[e]at aa;rw[aa,hu.bool]
     ·cases cX;rw[e]at aa;exact aa
    simp[Region.wanted,au,aE,DE ah]
   ·rename_i l aR;cases h;have ar:=H _ kt _ aR;obtain⟨u,e,hu⟩:=ar.wJ (by simp);obtain⟨vs,_,rfl⟩:=hu.RG;have aa:=bG d;rw[e]at aa;have uC:yielded ops.toArray a.tmps j=none:=by
     rw[aE];cases kq:a.tmps[d]? with
     |none=>rfl| some v=>simp only[eT,pi,kq,kk]at aa;subst aa;rfl
    simp[Region.wanted,au,uC]
   ·cases h
def amj{o:Oper}{al:bf ap}(H:∀ t∈looks ops o,∀ v,al.get t=some v->gp D (F t) v):jl D F al o.op.operands.toList:=λx ad v ah=>by
 cases x with
 |tmp t=>exact H t (OO (by simpa using ad)) v ah| const c=>exact(show qS D F .nil from λt v h=>by cases h).op [.const c] (.const c) (by simp) v ah| global g=>exact(show qS D F .nil from λt v h=>by cases h).op [.global g] (.global g) (by simp) v ah| func f=>exact(show qS D F .nil from λt v h=>by cases h).op [.func f] (.func f) (by simp) v ah
def amk{m m2:bf fG}{al:bf ap}(h:qi op=false):vd X.P X.E G m op al=vd X.P X.E G m2 op al:=by
 cases op with
 |load=>simp[qi]at h| slice t x lo hi mx=>cases mx<;>cases lo<;>cases hi<;>rfl
 |unOp u=>cases u<;>rfl
 |call c=>
  obtain⟨callee,args,fK⟩:=c;cases callee<;>rfl
 |_=>rfl
def Fa(X:cU)(G:GT)(pr:lW)(D0:bP)(n0:Nat)(ops:List Oper)(es:List Nat)(al:bf ap)(vs:List (Nat×ap))(S:List bp)(A:List qQ)(L:Nat->Prop)(a:Act)(w:World):Prop:=
 ∃ D F C I M j r8,Rel X a w F C I M/\(∀ q e,es[q]?=some e->(L e ↔ q<j))/\j<=es.length/\S[j]?=some r8/\c9 (dN X G pr) D r8 I M/\(∀ i v t,L i->(i,v)∈vs->jd ops i=some t->gp D (F t) v) /\ (∀ t v,(∀ i,L i->jd ops i≠some t)->al.get t=some v->gp D (F t) v)/\(∀ i c l T,qQ.made i c l T∈A->¬ L i->D c=none)/\D0.ext D n0
def Fa.al(cW:v0 ops){L:Nat->Prop}{q:Nat}{o:Oper}(aR:ops[q]?=some o)(rs:¬ L q){vs:List (Nat×ap)}(Fb:(vs.map (·.1)).Nodup){v:ap}(ah:(q,v)∈vs){al:bf ap}(bm:D.le bC)(aC:vm o.dst v bC F dm)(dJ:∀ i v t,L i->(i,v)∈vs->jd ops i=some t->gp D (F t) v)(aml:∀ t v,(∀ i,L i->jd ops i≠some t)->al.get t=some v->gp D (F t) v) :
  (∀ i v t,(L i\/i=q)->(i,v)∈vs->jd ops i=some t->gp bC (dm t) v)/\(∀ t v,(∀ i,(L i\/i=q)->jd ops i≠some t)->al.get t=some v->gp bC (dm t) v):=by
 have aas:jd ops q=o.dst:=by simp[jd,aR]
 constructor
 ·rintro i u t (hi | rfl) hm ak
  ·have bt:o.dst≠some t:=λe=>by obtain⟨gF,ig,ql⟩:=GG ak;exact cW.OM i q gF o t (λcX=>rs (cX ▸ hi)) ig aR ql e
   exact aC.2 bC t u bt ((dJ i u t hi hm ak).mono bm)
  ·rw[aar Fb hm ah];rw[aas]at ak;exact aC.1 t ak
 ·intro t u ea au;have bt:o.dst≠some t:=λe=>ea q (.inr rfl) (by rw[aas,e]);exact aC.2 bC t u bt ((aml t u (λi hi=>ea i (.inl hi)) au).mono bm)
end
section
variable{X:cU}{G:GT}{pr:lW}{D0:bP}{n0:Nat}{a:Act}{w:World}
def Sf{gZ:List Nat}:∀ {es:List Nat},LR gZ es=true->∀ (p q:Nat) (x y:Nat),p<q->es[p]?=some x->es[q]?=some y->(gZ.getD y 0).testBit x=true
 |[],_,p,q,x,y,_,ad,_=>by simp at ad
 |e::es,h,p,q,x,y,mX,ad,aE=>by
  simp only[LR,cz]at h;cases q with
  |zero=>omega
  |succ q=>
   have tl:es[q]?=some y:=by simpa using aE
   cases p with
   |zero=>simp at ad;subst ad;exact fy.1 h.1 y (st tl)| succ p=>exact Sf h.2 p q x y (by omega) (by simpa using ad) tl
def amm:e∈yk E ops ↔ e<ops.length/\Cs E ops e=2:=by
 unfold yk;rw[ja,g7];constructor
 ·rintro⟨aa,ab⟩;exact⟨aa,dP ab⟩
 ·rintro⟨aa,ab⟩;exact⟨aa,by rw[ab];rfl⟩
def aat{i:Nat}{o:Oper}(h:ops[i]?=some o):Cs E ops i=lB E o.op:=by unfold Cs;rw[Ae,h];rfl
def gp.same{x:dA}{u v:ap}(h:gp D x u)(ar:EU u v=true):gp D x v:=by
 rcases h with⟨y,rfl,h⟩ | ⟨q,rfl,rfl⟩
 ·exact .val (aaq ar h)
 ·have:v=.b q:=by
   cases v<;>simp only[EU,k8]at ar
   rw[eq_of_beq ar]
  exact .inr ⟨q,this,rfl⟩
def amn(aO:cT X.P X.E)(ko:∀ d,d<X.n->X.gC.contains d=true)(mY:Iu (dN X G pr) call){id:Nat}{IA:Array Oper}(iu:X.P.follows .mixedOrders=true)(aB:xF X.n IA=true)
  {al g5:bf ap} {m gO:bp} (h:Ru (dN X G pr) call IA.toList al m=some (g5,gO)) (q':∀ a w,lD X G pr D0 n0 g5 gO a w->Q .normal a w) (ar:lD X G pr D0 n0 al m a w) :
  (Code.region id IA true).wpIn (g8 X) 0 X.P Q a w:=by
 refine wpIn_region_any iu ?_;generalize vZ:IA.toList=ops at h;have amo:IA=ops.toArray:=by apply gV;simpa using vZ
 subst amo;have hk:∀ o∈ops,∀ d,o.dst=some d->d<X.n:=by simpa using JZ aB
 unfold Ru at h;obtain⟨zO,h⟩:=fW h;unfold Zu at zO;simp only[cz]at zO;obtain⟨amp,mE,aau,my⟩:=zO;have cW:v0 ops:=VE amp;have aav:((Ib X.E ops).filter λr=>Nat.beq r.2 2).map (·.1)=yk X.E ops:=by simpa using my
 clear my;generalize kw:yk X.E ops=es at *;have Sg:∀ e,e∈es ↔ e<ops.length/\Cs X.E ops e=2:=λe=>by rw[<-kw];exact amm
 generalize IB:Ib X.E ops=row at *;cases kf:o0 (dN X G pr) call ops row al m [] []with
 |none=>rw[kf]at h;cases h| some amq=>
 obtain⟨amr,ams,ke,nR⟩:=amq;rw[kf]at h;have bc:bY (nR.all (Rt (dN X G pr) es (lg ops) ke.reverse)) (some (amr,ams)) none=some (g5,gO):=h;clear h;obtain⟨aaw,bc⟩:=fW bc;cases bc;obtain⟨vs,S,A,Mm,Mn,amt,-⟩:=Ix aO ko hk mY row kf;rw[ee]at Mn;subst Mn;rw[RQ]at aaw;have aax:∀ y∈A,Rt (dN X G pr) es (lg ops) S y=true:=λy aE=>fy.1 aaw y (amt y aE);have hZ:(row.map (·.1)).Nodup:=amh mE;obtain⟨avr,avs,avt,avu,avv,avw,avx,h1,ku,me,iP,Hr,avy,amu,amv,avz⟩:=lZ.split row (bj:=[]) (by rw[ee];exact Mm);have amw:(row.filter λr=>Nat.beq r.2 2).length=es.length:=by rw[<-aav,bI]
 cases Hr;rw[ee]at h1;subst h1;have Fb:(vs.map (·.1)).Nodup:=by rw[ku];exact hZ
 have amx:=Mm.Mj;have amy:∀ (a9:List (Nat×Nat)) (bj:List (Nat×Nat)),row=a9++bj->Bz ops (λi=>i∈a9.map (·.1)):=λa9 bj l1 j e ai he=>by
  obtain⟨⟨x,c⟩,ad,Iz⟩:=cN.1 ai;have Se:x=j:=Iz;subst Se;obtain⟨BQ,D6,aG⟩:=vi ad;rcases(Mk mE BQ x c (D6++bj) (by rw[l1,aG];simp)).2.2.2 e he with h | h;·simp at h
  ·show e∈a9.map (·.1);rw[aG,cM];exact cB.2 (.inl h)
 let J:=Fa X G pr D0 n0 ops es al vs S A
 have key:=amd (X:=X) (ops:=ops) (Q:=Q) cW.lt J ?step ?fin ops.length (Array.replicate ops.length false) a { w with drawn:=w.drawn+1 } (by simp) (by unfold todo;exact k' (Bv _ _) (by simp)) ?cl ?start
 case cl=>
  intro j e ai;exfalso;by_cases hi:j<ops.length<;>simp[pi,hi]at ai
 case start=>
  obtain⟨D,F,C,I,M,⟨β,aV⟩,bG,mD,ad,uK⟩:=ar;obtain⟨m2,yu,Sh,au⟩:=Mm.head;have cc:∀ i,¬ (Array.replicate ops.length false).getD i false=true:=λi=>by
   by_cases hi:i<ops.length<;>simp[pi,hi]
  refine⟨D,F,C,I,M,0,m2,⟨β,aV.world rfl⟩,λq e _=>⟨λh=>(cc e h).elim,λh=>by omega⟩,dD _,by rw[Sh];rfl,mD.grow au,λi v t hi=>(cc i hi).elim,λt v _ au=>bG t v au,λi c l T rF _=>?_,ad⟩;have:=(amx.2 i c l T rF).1;cases IC:D c with
  |none=>rfl| some b=>have:=mD.jS _ _ IC;omega
 case fin=>
  rintro a w⟨D,F,C,I,M,j,r8,aV,wU,ai,vp,mD,CE,CF,gf,ad⟩;have eM:j=es.length:=by
   refine Nat.le_antisymm ai ?_;by_cases az:es.length=0;·omega
   ·have aX:es.length-1<es.length:=by omega
    have aa:=(wU (es.length-1) es[es.length-1] (dg aX)).1 ((Sg _).1 (br aX)).1;omega
  have amz:r8=gO:=by rw[eM,me,m3 (by omega),iP,amw]at vp;simpa using vp.symm
  subst amz;refine q' a w ⟨D,F,C,I,M,aV,λt v au=>?_,mD,ad,?_⟩
  ·rcases amv t v au with⟨i,aa,ab⟩ | ⟨aa,ab⟩
   ·obtain⟨gF,ig,_⟩:=GG ab;exact CE i v t (ia.1 ig).1 aa ab
   ·refine CF t v (λi hi=>?_) ab;rcases Sd mE i hi with aj | aj
    ·simp at aj
    ·exact aa i aj
  ·obtain⟨bC,dm,C',I',M',_,_,_,_,uK⟩:=ar;exact k' uK amu
 case step=>
  rintro L a w q o⟨D,F,C,I,M,j,r8,⟨β,aV⟩,wU,ai,vp,mD,CE,CF,gf,ad⟩dX avA aR rs Mo;have fe:q<ops.length:=(ia.1 aR).1;have qn:=hk o (st aR);obtain⟨⟨e0,k⟩,amA,Si⟩:=cN.1 ((Sd mE q fe).resolve_left (by simp));have amB:e0=q:=Si;subst amB;obtain⟨a9,post,dL⟩:=vi amA;obtain⟨-,-,aay,amC⟩:=Mk mE a9 e0 k post dL;have amD:∀ e,mV ops e0 e->e∈a9.map (·.1):=λe he=>(amC e he).resolve_left (by simp);have Mp:=amy a9 ((e0,k)::post) dL;have aaz:=Mm;rw[dL]at aaz;obtain⟨wR,yt,fB,c5,vo,yu,wS,aG,a7,cn,dr,lq,l0,As,Iy,wT⟩:=lZ.split a9 aaz;have avB:=lq.Mj;have H:∀ t∈looks ops o,∀ v,fB.get t=some v->gp D (F t) v:=λt av v ah=>by
   rcases Iy t v ah with⟨i,aa,ab⟩ | ⟨aa,ab⟩
   ·obtain⟨gF,ig,ql⟩:=GG ab;have aaA:i∈a9.map (·.1):=by rw[<-a7];exact cN.2 ⟨_,aa,rfl⟩
    have bt:i≠e0:=λe=>aay (e ▸ aaA);rcases cW.ord i e0 gF o t bt ig aR ql av with ag | ag;·exact CE i v t (ag.mem dX Mo) (by rw[aG];exact cB.2 (.inl aa)) ab
    ·exact(aay (ag.mem Mp λe he=>Mp i e aaA he)).elim
   ·refine CF t v (λi hi j7=>?_) ab;obtain⟨gF,ig,ql⟩:=GG j7;have bt:i≠e0:=λe=>rs (e ▸ hi);rcases cW.ord i e0 gF o t bt ig aR ql av with ag | ag
    ·exact aa i (ag.mem Mp amD) j7
    ·exact rs (ag.mem dX λe he=>dX i e hi he)
  have sZ:jl D F fB o.op.operands.toList:=amj H;have eS:ET es (lg ops) e0<=j:=filter_le λp e aC ag=>by exact(wU p e aC).1 ((zh ag).mem dX Mo)
  have gB:j<=qP es (lg ops) e0:=le_filter ai λp e aC ID=>by
   cases ag:((lg ops).getD e 0).testBit e0 with
   |false=>rfl| true=>have CG:L e:=(wU p e ID).2 aC;exact(rs ((zh ag).mem dX λd ak=>dX e d CG ak)).elim
  have aaB:lB X.E o.op≠2->∀ p e,es[p]?=some e->((L e\/e=e0) ↔ p<j):=λae p e aC=>by
   have bt:e≠e0:=λhe=>ae (by
    have:=((Sg e).1 (st aC)).2;rw[he,aat aR]at this;exact this)
   exact⟨λcS=>(wU p e aC).1 (cS.resolve_right bt),λcS=>.inl ((wU p e aC).2 cS)⟩
  have Sj:lB X.E o.op=2->es[j]?=some e0/\j+1<=es.length/\∀ p e,es[p]?=some e->((L e\/e=e0) ↔ p<j+1):=λae=>by
   have Si:e0∈es:=(Sg e0).2 ⟨fe,by rw[aat aR];exact ae⟩;obtain⟨yv,gS⟩:=Lo Si;have avC:=(ia.1 gS).1;have aa:¬ yv<j:=λcS=>rs ((wU yv e0 gS).2 cS);have ab:¬ j<yv:=λcS=>by
    have eM:j<es.length:=by omega
    have Sk:=Sf aau j yv es[j] e0 cS (dg eM) gS;have:=(wU j es[j] (dg eM)).1 ((zh Sk).mem dX Mo);omega
   have aj:yv=j:=by omega
   subst aj;refine⟨gS,by omega,λp e aC=>⟨λcS=>?_,λcS=>?_⟩⟩
   ·rcases cS with cS | rfl
    ·have:=(wU p e aC).1 cS;omega
    ·refine Gt λaB=>?_;have Sk:=Sf aau yv p e e (by omega) gS aC;exact rs ((zh Sk).mem dX Mo)
   ·by_cases qf:p<yv
    ·exact .inl ((wU p e aC).2 qf)
    ·have:p=yv:=by omega
     subst this;rw[gS]at aC;exact .inr (o3 aC).symm
  have plain:∀ {v:ap} {dm:Fr} {C':dC} {bO:Act} {w':World},(e0,v)∈vs->lB X.E o.op≠2->(∀ l T c,qQ.made e0 c l T ∉ A\/True)->Rel X bO w' dm C' I M->vm o.dst v D F dm->J (λj=>L j\/j=e0) bO w':=fun {v dm C' bO w'} ah ae _ rv aC=>by obtain⟨f1,f2⟩:=Fa.al cW aR rs Fb ah (bP.le_refl D) aC CE CF;exact⟨D,dm,C',I,M,j,r8,rv,aaB ae,ai,vp,mD,f1,f2,λi c l T hm ea=>gf i c l T hm λhi=>ea (.inl hi),ad⟩
  have IE:∀ {v:ap} {bj:List (Nat×ap)},yt=(e0,v)::bj->(e0,v)∈vs:=fun {v bj} he=>by rw[aG,he];exact cB.2 (.inr (by simp))
  have amE:n0<=c5.n:=by obtain⟨bC,dm,C',I',M',_,_,_,_,uK⟩:=ar;exact k' uK As
  have aaC:∀ {k:Nat},k=2->row=a9++(e0,k)::post->lB X.E o.op=2->vo.length=j:=fun {k} eN amF ae=>by
   obtain⟨Sl,eM,_⟩:=Sj ae;have amG:es=(a9.filter λr=>Nat.beq r.2 2).map (·.1)++e0::((post.filter λr=>Nat.beq r.2 2).map (·.1)):=by rw[<-aav,amF,yb,cM,pu];subst eN;simp
   have bF:es.Nodup:=by rw[<-kw];exact xJ.sublist zv
   have aa:es[vo.length]?=some e0:=by rw[amG,m3 (by rw[bI,dr];exact ca _),bI,dr,pL];rfl
   have xS:=(ia.1 aa).1;exact(List.getElem?_inj xS bF).1 (by rw[aa,Sl])
  cases lq with
  | @q i o' bj nf jk v c6 tj Sm Sn mF od aH ae CH ah aC t=>
   have ng:o'=o:=o3 (aH.symm.trans aR);subst ng;have hw:=Ml CH aV.al H;refine⟨λ_=>?_,λaA=>by rw[hw]at aA;cases aA⟩;obtain⟨u,hu,amH⟩:∃ u,vd X.P X.E G r8.t o'.op fB=some u/\∀ x,gp D x u->gp D x v:=by
    cases ay:qi o'.op with
    |false=>exact⟨v,by rw[amk ay (m2:=c5.t)];exact ah,λ_ h=>h⟩
    |true=>
     have eX:qQ.load e0 o' fB v∈A:=l0 _ (by rw[ay];simp);have aa:=aax _ eX;have ab:=aap (show EV S (ET es (lg ops) e0) (qP es (lg ops) e0) (Rr (dN X G pr) o' fB v)=true from aa) eS gB vp;unfold Rr at ab;split at ab;·rename_i u hu;exact⟨u,hu,λx ad=>ad.same ab⟩
     ·cases ab
   refine te (λbO w'=>?_) (DD aO qn ⟨β,aV⟩ (aal (K:=λdm C' I' M'=>I'=I/\M'=M/\vm o'.dst v D F dm) aO qn ae hu sZ mD λx ad=>⟨rfl,rfl,.put F (amH x ad)⟩));rintro⟨dm,C',I',M',eY,rfl,rfl,Hz⟩;exact plain (IE rfl) (by rw[ae];decide) (λ_ _ _=>.inr trivial) eY Hz
  | @a i o' d bj nf jk m' l T c mk c6 tj Sm Sn mF od aH ae CH ak ah amI aC t=>
   have ng:o'=o:=o3 (aH.symm.trans aR);subst ng;have hw:=Ml CH aV.al H;refine⟨λ_=>?_,λaA=>by rw[hw]at aA;cases aA⟩;have eX:qQ.made e0 c5.n l T∈A:=l0 _ (by simp);have aa:=aax _ eX;have ab:=aap (show EV S (ET es (lg ops) e0) (qP es (lg ops) e0) (Rs c5.n l T)=true from aa) eS gB vp;unfold Rs at ab;rw[cz]at ab;obtain⟨Fc,ab⟩:=ab;have amJ:c5.n<r8.n:=bJ Fc;split at ab
   ·rename_i cs l8 fH qe;simp only[cz]at ab;obtain⟨bu,Al,ab⟩:=ab;have Gf:=dP bu;subst Gf;have aae:=dP Al;subst aae;split at ab
    ·rename_i ev po;obtain⟨aaD,gy,gE,qC⟩:=bf.EX cs l.length 0 _ _ po;have wg:aaD=ev:=o3 qC;subst wg;have IC:D c5.n=none:=gf e0 c5.n l l8 eX rs;refine te (λbO w'=>?_) (DD aO qn ⟨β,aV⟩ (Z0 (K:=λdm C' I' M'=>∃ b us u,I'=I/\M'=⟨b,.cells us.toArray l8 (0,0)⟩::M/\I b=none/\(∀ x∈M,x.num≠b)/\bM D l us/\(∀ i,X.E l8=some i->us.length=c*i.size)/\c<=maxLen /\ (∀ (bC:bP) id,bC id=some ⟨b,0,c⟩->aU bC (mk id) u)/\Ak o'.dst u F dm) aO ko qn ah (by rw[ak];rfl) sZ λb us u dm C' a8 ba bQ ft lj Ld So=>⟨b,us,u,rfl,rfl,a8,ba,bQ,ft,lj,Ld,So⟩));rintro⟨dm,C',I',M',eY,b,us,u,rfl,rfl,a8,ba,bQ,ft,lj,Ld,So⟩;have bm:D.le (D.set c5.n ⟨b,0,c⟩):=bP.Aj _ IC;have CI:vm o'.dst (mk c5.n) (D.set c5.n ⟨b,0,c⟩) F dm:=So.v (Ld _ _ (bP.pU _ _ _));obtain⟨f1,f2⟩:=Fa.al cW aR rs Fb (IE rfl) bm CI CE CF;have rI:=E' ab bQ;have g0:∀ id,id≠c5.n->(D.set c5.n ⟨b,0,c⟩) id=D id:=λid lY=>by unfold bP.set;rw[bR lY]
     have It:∀ id e iM,r8.t.get id=some e->D id=some iM->iM.b≠b:=λid e iM hi ju CC=>by obtain⟨x,wQ,At⟩:=mD.aq hi ju;exact ba x wQ (At.trans CC)
     refine⟨D.set c5.n ⟨b,0,c⟩,dm,C',I',_,j,r8,eY,aaB (by rw[ae];decide),ai,vp,?_,f1,f2,?_,λi hi=>?_⟩
     ·refine⟨λid e iM hi ju=>?_,λid iV e cX b1 bW hi cZ aa ab CC=>?_,λid iM ju=>?_,mD.qR⟩
      ·by_cases lY:id=c5.n
       ·subst lY;rw[bP.pU]at ju;cases ju;rw[qe]at hi;cases hi;refine .cells us.toArray rfl (by simp) (by simp[bQ.len]) (λi v hi ah=>?_) (λi hi=>by simpa using ft i hi) lj;have j2:aaD[i]?=some v:=by have:=gE i hi;rw[c8,ah]at this;exact this.symm
        obtain⟨x,wQ,At⟩:=rI.get j2;exact⟨x,by simpa using wQ,At.mono bm⟩
       ·rw[g0 id lY]at ju;exact(mD.iU id e iM hi ju).mono bm λx ad _=>nQ _ ad
      ·by_cases lY:id=c5.n
       ·by_cases IF:iV=c5.n
        ·rw[lY,IF]
        ·rw[g0 iV IF]at ab;rw[lY,bP.pU]at aa;cases aa;exact(It iV cX bW cZ ab CC.symm).elim
       ·rw[g0 id lY]at aa;by_cases IF:iV=c5.n
        ·rw[IF,bP.pU]at ab;cases ab;exact(It id e b1 hi aa CC).elim
        ·rw[g0 iV IF]at ab;exact mD.inj id iV e cX b1 bW hi cZ aa ab CC
      ·by_cases lY:id=c5.n
       ·rw[lY];exact amJ
       ·rw[g0 id lY]at ju;exact mD.jS _ _ ju
     ·intro i c' ev BX rF ea;have amK:c'≠c5.n:=λe=>by
       rcases wT i c' ev BX rF with h | h
       ·rcases ec.1 h with h | h
        ·cases h;exact ea (.inr rfl)
        ·have:=(t.Mj.2 i c' ev BX h).1;have:=amI.1;omega
       ·omega
      rw[g0 c' amK];exact gf i c' ev BX rF λhi=>ea (.inl hi)
     ·rw[g0 i (by omega)];exact ad i hi
    ·cases ab
   ·cases ab
  | @e i o' bj nf jk m' v c6 tj Sm Sn mF od aH ae CH Iv aC t=>
   have ng:o'=o:=o3 (aH.symm.trans aR);subst ng;have hw:=Ml CH aV.al H;refine⟨λ_=>?_,λaA=>by rw[hw]at aA;cases aA⟩;obtain⟨Sl,eM,Sp⟩:=Sj ae;have IG:=aaC rfl dL ae;have Sq:r8=c5:=by rw[cn,m3 (by omega),IG,pL]at vp;simpa using vp.symm
   subst Sq;obtain⟨m2,amL,Sr,Ss⟩:=t.head;refine te (λbO w'=>?_) (DD aO qn ⟨β,aV⟩ (Iv.2 D F C I M (λdm C' I' M'=>∃ bC,D.ext bC r8.n/\vm o'.dst v bC F dm/\c9 (dN X G pr) bC m' I' M') sZ mD λbC dm C' I' M' a8 ba bQ=>⟨bC,a8,ba,bQ⟩));rintro⟨dm,C',I',M',eY,bC,a8,ba,bQ⟩;have bm:=mD.le a8;obtain⟨f1,f2⟩:=Fa.al cW aR rs Fb (IE rfl) bm ba CE CF;refine⟨bC,dm,C',I',M',j+1,m2,eY,Sp,eM,?_,bQ.grow Ss,f1,f2,λi c l T rF ea=>?_,bP.aan ad a8 amE⟩;·rw[cn,m3 (by omega),IG,show j+1-j=0+1 by omega,F7,Sr];rfl
   ·rcases wT i c l T rF with h | h
    ·have:=(t.Mj.2 i c l T h).1;cases IC:bC c with
     |none=>rfl| some b=>have:=bQ.jS _ _ IC;omega
    ·rw[a8 c h];exact gf i c l T rF λhi=>ea (.inl hi)
  | @skip i eZ o' bj nf jk c6 tj Sm Sn mF od aH ae CH aC t=>
   have ng:o'=o:=o3 (aH.symm.trans aR);subst ng;have hw:=Ml CH aV.al H;refine⟨λaA=>(by rw[hw]at aA;cases aA),λ_=>?_⟩;have rv:Rel X (a.put o'.dst undef) w (put o'.dst (.val undef) F) C I M:=⟨β,aV.put (x:=.val undef) qn rfl⟩;have CI:vm o'.dst (.t []) D F (put o'.dst (.val undef) F):=.put F (.val .undef);by_cases eN:k=2
   ·subst eN;obtain⟨Sl,eM,Sp⟩:=Sj ae;have IG:=aaC rfl dL ae;have Sq:r8=c5:=by rw[cn,m3 (by omega),IG,pL]at vp;simpa using vp.symm
    subst Sq;obtain⟨m2,amL,Sr,Ss⟩:=t.head;obtain⟨f1,f2⟩:=Fa.al cW aR rs Fb (IE rfl) (bP.le_refl D) CI CE CF;refine⟨D,_,C,I,M,j+1,m2,rv,Sp,eM,?_,mD.grow Ss,f1,f2,λi c l T rF ea=>gf i c l T rF λhi=>ea (.inl hi),ad⟩;rw[cn,m3 (by omega),IG,show j+1-j=0+1 by omega];show(r8::mF)[0+1]?=some m2;rw[F7,Sr];rfl
   ·exact plain (IE rfl) (by rw[ae];exact eN) (λ_ _ _=>.inr trivial) rv CI
 simpa using key
end
def CJ{n:Nat}:∀ {c:Code},h8 n c=true->codeOk n c=true
 | .seq x y,h=>by simp only[h8,codeOk,cz]at h |-;exact⟨CJ h.1,CJ h.2⟩
 | .block _ c,h=>by simp only[h8,codeOk]at h |-;exact CJ h
 | .cond _ x y,h=>by simp only[h8,codeOk,cz]at h |-;exact⟨CJ h.1,CJ h.2⟩
 | .loop c,h=>by simp only[h8,codeOk]at h |-;exact CJ h
 | .region _ ops _,h=>h| .scope c,h=>rfl| .rangeFunc ..,h=>rfl| .skip,h | .exit _,h | .label _,h | .goto _,h | .ret,h | .refuse _,h=>rfl
def St{n:Nat}:∀ {c:Code} {l:Nat} {r:Code},h8 n c=true->findLabel c l=some r->h8 n r=true
 | .seq x y,l,r,h,ay=>by
  simp only[h8,cz]at h;simp only[findLabel]at ay;split at ay;·rename_i bj af;cases ay;simp only[h8,cz];exact⟨St h.1 af,h.2⟩
  ·exact St h.2 ay
 | .label ev,l,r,h,ay=>by
  simp only[findLabel]at ay;split at ay;·cases ay;rfl
  ·cases ay
 | .skip,_,_,_,ay | .exit _,_,_,_,ay | .goto _,_,_,_,ay | .ret,_,_,_,ay | .refuse _,_,_,_,ay | .block _ _,_,_,_,ay | .cond _ _ _,_,_,_,ay | .loop _,_,_,_,ay | .scope _,_,_,_,ay | .region _ _ _,_,_,_,ay | .rangeFunc _ _ _ _,_,_,_,ay=>by simp[findLabel]at ay
def wV(P:Program):Prop:=∀ (g:Nat) (fn:Func) (c:Code),P.funcs[g]?=some fn->fn.body=some c->h8 fn.ntmps c=true/\(fn.name == "runtime.NumGoroutine")=false
def amM(P:Program):Bool:=P.funcs.toList.all λfn=>match fn.body with
 |some c=>h8 fn.ntmps c && !(fn.name == "runtime.NumGoroutine")
 |none=>true
def amN(h:amM P=true):wV P:=λg fn c aA ag=>by have aa:=fy.1 h fn (by rw[<-Array.mem_def];exact Array.mem_of_getElem? aA);simp only[ag,cz,to]at aa;exact aa
def yw(Y:gN):Prop:=∀ g vs m v m',Y.pr g vs m=some (v,m')->∀ (D:bP) (I:aJ) (M:List aD) (us:List Value),bM D vs us->c9 Y D m I M->Spec Y.P g us I M λr I' M'=>∃ bC,D.ext bC m.n/\aU bC v r/\c9 Y bC m' I' M'
def Au:tn->Exit
 | .normal=>.normal| .exit id=>.exit id| .goto l=>.goto l| .ret=>.ret
def jT(Y:gN)(n B:Nat)(az:World)(dn:aJ)(foot:List Nat)(ro:Option Nat):cU:=⟨Y.P,Y.E,List.range n,n,B,az,dn,foot,ro⟩
def jT.gC{Y:gN}{n B:Nat}{az:World}{dn:aJ}{foot:List Nat}{ro:Option Nat}:∀ d,d<(jT Y n B az dn foot ro).n->(jT Y n B az dn foot ro).gC.contains d=true:=λd ak=>by have fz:d<n:=ak;show(List.range n).contains d=true;simpa using fz
def CK(Y:gN)(f:Nat):Prop:=∀ gJ n c al m ex c6 m',lX Y f gJ n c al m=some (ex,c6,m')->h8 n c=true->∀ B az dn foot ro D0 n0 a w,(gJ=true->ro=none)->lD (jT Y n B az dn foot ro) Y.G Y.pr D0 n0 al m a w -> c.wpIn (g8 (jT Y n B az dn foot ro)) 0 Y.P (λe a w=>e=Au ex/\lD (jT Y n B az dn foot ro) Y.G Y.pr D0 n0 c6 m' a w) a w
def Su{α:Type}:∀ (n k:Nat),(bf.bare n:bf α).get k=none
 |0,k=>rfl
 |n+1,k=>by
  rw[bf.bare,bf.If];cases Nat.beq k 0 with
  |true=>rfl
  |false=>
   cases Nat.beq (k%2) 1 with
   |true=>exact Su n _| false=>exact Su n _
section
variable{X:cU}{G:GT}{pr:lW}{D:bP}{m:bp}{F:Fr}{al:bf ap}{C:dC}{I:aJ}{M:List aD}
def Sv(bG:qS D F al)(hm:c9 (dN X G pr) D m I M):∀ {a0:List ResultVar} {vs:List ap} {K:List Value->Prop},z' (dN X G pr) al m.t a0=some vs->(∀ us,bM D vs us->K us)->pt X F C I M a0 K
 |[],vs,K,h,ae=>by simp only[z']at h;cases h;exact ae [] .nil
 | .tmp t::l,vs,K,h,ae=>by
  simp only[z']at h;split at h;·rename_i v tj aa ab;cases h;obtain⟨u,aG,a8⟩:=(show gp D (dk F (.tmp t)) v from bG t v aa).dy;unfold pt;rw[aG];exact Sv bG hm ab λus fE=>ae _ (.cons a8 fE)
  ·cases h
 | .cell t ty::l,vs,K,h,ae=>by
  simp only[z']at h;split at h
  ·rename_i x i tj aa ab aj;split at h
   ·rename_i v ah;cases h;have ym:∀ q,x≠.b q:=λq e=>by subst e;cases ah
    obtain⟨u,aG,a8⟩:=gp.wJ (bG t x aa:gp D (dk F (.tmp t)) x) ym;obtain⟨aS,ev,Fe,rfl,bl,ay,aC⟩:=wK hm a8 ah;have oK:X.E ty=some i:=ab;have ej:dk F (.tmp t)=.val (.pointer (some aS)):=aG;unfold pt;rw[ej,oK];exact⟨Fe,bl,Sv bG hm aj λus fE=>ae _ (.cons (L4 aC ay) fE)⟩
   ·cases h
  ·cases h
end
def aaE(aO:cT Y.P Y.E)(bG:wV Y.P)(l1:yw Y)(an:CK Y f){args:List ap}{m:bp}{v:ap}{fn:Func}{c:Code}(aA:Y.P.funcs[g]?=some fn)(ag:fn.body=some c)(bm:args.length<=fn.ntmps){al c6:bf ap}(xz:∀ t w,al.get t=some w->args[t]?=some w){c5:bp}(hex:ex=.normal\/ex=.ret)(h:lX Y f true fn.ntmps c al m=some (ex,c6,c5)){vs:List ap}(af:z' Y c6 c5.t fn.results.toList=some vs)
  (ah:v=Zv vs) (hu:bM D args us) (hm:c9 Y D m I M):vN Y.P g us I M λr I' M'=>∃ bC,D.ext bC m.n/\aU bC v r/\c9 Y bC c5 I' M':=by
 obtain⟨bx,hv⟩:=bG g fn c aA ag;refine OE (List.range fn.ntmps) aO aA ag hv ?_ λB az a w aV=>?_
 ·rw[cz];exact⟨CJ bx,Cf (by rw[hu.len];exact bm)⟩
 ·have amO:qS D (xG us) al:=λt w hw=>by obtain⟨x,aa,ab⟩:=hu.get (xz t w hw);refine .inl ⟨x,?_,ab⟩;simp only[xG,aa]
  have er:lD (jT Y fn.ntmps B az I (M.map (·.num)) none) Y.G Y.pr D m.n al m a w:=⟨D,_,_,I,M,aV,amO,hm,bP.o5,ca _⟩;refine wpIn_mono (an _ _ _ _ _ _ _ _ h bx B az I (M.map (·.num)) none D m.n a w (λ_=>rfl) er) ?_;rintro e bO w'⟨rfl,bC,dm,C',I',M',rv,ov,sw,ad,aB⟩;have HA:∀ CB,CB=.normal\/CB=.ret->uD (jT Y fn.ntmps B az I (M.map (·.num)) none) fn.results.toList (λr I' M'=>∃ bC,D.ext bC m.n/\aU bC v r/\c9 Y bC c5 I' M') CB dm C' I' M':=λCB he=>by
   have Av:=Sv (X:=jT Y fn.ntmps B az I (M.map (·.num)) none) (G:=Y.G) (pr:=Y.pr) (C:=C') ov sw af (K:=λvs=>match vs with
    |[r4]=>vV (M.map (·.num)) I' M' ((λr I' M'=>∃ bC,D.ext bC m.n/\aU bC v r/\c9 Y bC c5 I' M') r4)
    |vs=>vV (M.map (·.num)) I' M' ((λr I' M'=>∃ bC,D.ext bC m.n/\aU bC v r/\c9 Y bC c5 I' M') (.tuple vs.toArray))) λFe fE=>by
     clear af
     match vs,Fe,fE,ah with
     |[],Fe,fE,ah=>rw[fE.nP];refine⟨I',M',.refl,bC,ad,?_,sw⟩;rw[ah];exact .L3 .nil| [v1],Fe,fE,ah=>obtain⟨x,xs,aa,ab,rfl⟩:=fE.kF;rw[ab.nP];refine⟨I',M',.refl,bC,ad,?_,sw⟩;rw[ah];exact aa
     |v1::v2::vs,Fe,fE,ah=>obtain⟨x,xs,aa,ab,rfl⟩:=fE.kF;obtain⟨y,ys,aj,aI,rfl⟩:=ab.kF;refine⟨I',M',.refl,bC,ad,?_,sw⟩;rw[ah];exact .L3 fE
   rcases he with rfl | rfl<;>exact Av
  rcases hex with rfl | rfl;·exact⟨dm,C',I',M',rv,HA _ (.inl rfl)⟩
  ·exact⟨dm,C',I',M',rv,HA _ (.inr rfl)⟩
def Spec.qU{args:List Value}{p q:Value->aJ->List aD->Prop}(h:Spec P f args I M p)(ae:∀ v I' M',p v I' M'->q v I' M'):Spec P f args I M q:=by
 rcases h with⟨aa,ab⟩ | h
 ·refine .inl ⟨aa,λw hw=>?_⟩;refine(ab w hw).mono ?_;rintro e w'⟨v,I',M',aG,a7,cn,dr⟩;exact⟨v,I',M',aG,ae _ _ _ a7,cn,dr⟩
 ·refine .inr λw hw=>?_;obtain⟨v,w',I',M',aG,a7,cn,dr⟩:=h w hw;exact⟨v,w',I',M',aG,ae _ _ _ a7,cn,dr⟩
section
variable{Y:gN}{D:bP}{m m':bp}{I:aJ}{M:List aD}
def aaF(aO:cT Y.P Y.E)(bG:wV Y.P)(l1:yw Y)(an:CK Y f){args:List ap}{v:ap}(h:LU Y (lX Y f) g args m=some (v,m'))(hu:bM D args us)(hm:c9 Y D m I M) :
  vN Y.P g us I M λr I' M'=>∃ bC,D.ext bC m.n/\aU bC v r/\c9 Y bC m' I' M':=by
 unfold LU at h;obtain⟨fn,aA,aa⟩:=cp h;obtain⟨c,ag,ab⟩:=cp aa;obtain⟨bm,aj⟩:=fW ab;obtain⟨al,a8,ba⟩:=bf.yl args (bf.bare 12) 0;rw[a8]at aj;have xz:∀ t w,al.get t=some w->args[t]?=some w:=λt w hw=>by
  rcases ba t w hw with⟨_,h⟩ | ⟨_,h⟩;·simpa using h
  ·rw[Su]at h;cases h
 unfold Zw at aj;split at aj
 ·rename_i c6 c5 ad;unfold LS at aj;obtain⟨vs,af,aI⟩:=cp aj;cases aI;exact aaE aO bG l1 an aA ag (bJ bm) xz (.inl rfl) ad af rfl hu hm
 ·rename_i c6 c5 ad;unfold LS at aj;obtain⟨vs,af,aI⟩:=cp aj;cases aI;exact aaE aO bG l1 an aA ag (bJ bm) xz (.inr rfl) ad af rfl hu hm
 ·cases aj
def aaG(aO:cT Y.P Y.E)(bG:wV Y.P)(l1:yw Y)(an:CK Y f){args:List ap}{v:ap}(h:Aa Y (lX Y f) g args m=some (v,m'))(hu:bM D args us)(hm:c9 Y D m I M) :
  Spec Y.P g us I M λr I' M'=>∃ bC,D.ext bC m.n/\aU bC v r/\c9 Y bC m' I' M':=by
 unfold Aa at h;cases aC:Y.pr g args m with
 |none=>rw[aC]at h;exact .inl (aaF aO bG l1 an h hu hm)| some p=>rw[aC]at h;have bc:some p=some (v,m'):=h;cases bc;exact l1 g args m v m' aC D I M us hu hm
def cK.kept{a:Act}{W:World}{C:dC}{M0:List aD}(h:cK X β a w F C I' M')(aa:X.az=W)(ab:X.B=W.heap.size)(aj:X.dn=dn)(aI:X.foot=M0.map (·.num)):Kept dn M0 W I' M' w where
 le:=by rw[<-aj];exact h.ie
 uy b o ag:=by
  rcases h.hI b o ag with bB | bB;·exact .inl (by rw[<-aj];exact bB)
  ·exact .inr (by rw[<-ab];exact bB)
 vM x ad:=by
  rcases h.own x ad with bB | bB;·rw[aI]at bB;obtain⟨y,aE,e⟩:=cN.1 bB;exact .inl ⟨y,aE,e⟩
  ·exact .inr (by rw[<-ab];exact bB)
 dH b ag aB:=by rw[<-aa];refine h.dH b (by rw[ab];exact ag) λhm=>?_;rw[aI]at hm;obtain⟨y,aE,e⟩:=cN.1 hm;exact aB y aE e
 out:=by rw[<-aa];exact h.out
 sz:=by rw[<-ab];exact h.sz
def aaH{R:Type}:∀ {ps:List Nat} {args:List ap} {nf:bf ap} {K:bf ap->Option R} {r:R} {us:List Value} {tmps:Array Value},EW ps args nf K=some r->bM D args us->(∀ t∈ps,t<tmps.size)->(∀ t v,nf.get t=some v->aU D v (tmps.getD t undef)) -> ∃ fB,K fB=some r/\us.length=ps.length/\((ps.zip us).foldl (λ(tmps:Array Value) (p:Nat×Value)=>tmps.setIfInBounds p.1 p.2) tmps).size=tmps.size /\ ∀ t v,fB.get t=some v->aU D v (((ps.zip us).foldl (λ(tmps:Array Value) (p:Nat×Value)=>tmps.setIfInBounds p.1 p.2) tmps).getD t undef)
 |[],[],nf,K,r,us,tmps,h,hu,aC,az=>by have:=hu.nP;subst this;exact⟨nf,h,rfl,rfl,az⟩
 |[],_::_,nf,K,r,us,tmps,h,hu,aC,az=>by simp[EW]at h
 |_::_,[],nf,K,r,us,tmps,h,hu,aC,az=>by simp[EW]at h
 |t0::ps,wW::args,nf,K,r,us,tmps,h,hu,aC,az=>by
  obtain⟨x,xs,a8,ba,rfl⟩:=hu.kF;simp only[EW]at h;obtain⟨fB,aa,ab⟩:=bf.o1 (some wW) nf t0;rw[aa]at h;have aX:=aC t0 (by simp);obtain⟨vq,aj,aI,bB,b4⟩:=aaH (tmps:=tmps.setIfInBounds t0 x) h ba (λt av=>by simpa using aC t (by simp[av])) λt v av=>by
   rw[pi,Dt];rcases ab t v av with⟨rfl,e⟩ | ⟨bt,au⟩;·have:=(o3 e);subst this;simp only[pk,aX];exact a8
   ·rw[bR (pj bt),<-pi];exact az t v au
  exact⟨vq,aj,by simp[aI],by simpa using bB,b4⟩
def lC.Mq{a:Loc}{n:Nat}{al:bf ap}(h:lC D E M a (.loop b n al ps fg body)):∃ L,(⟨a.b,.loop L⟩:aD)∈M/\ZF D b n al ps fg body L:=by
 cases h with
 |loop L aa ab=>exact⟨L,aa,ab⟩
def lC.amP{a:Loc}{c:Code}{n:Nat}{al:bf ap}(h:lC D E M a (.done c n al ps fg body)):∃ L,(⟨a.b,.loop L⟩:aD)∈M/\L.state=.done/\L.pending=some c:=by
 cases h with
 |done L aa ab aj=>exact⟨L,aa,ab,aj⟩
def c9.swap(h:c9 Y D m I M){l:Nat}{aG:fG}{o o':Obj}{Mr:List aD}(au:m.t.get l=some db)(a4:D l=some hc)(a':M.Perm (⟨hc.b,o⟩::Mr))(av:∀ id e,bq.get id=some e->(id=l/\some aG=some e)\/(id≠l/\m.t.get id=some e))
  (he:lC D Y.E (⟨hc.b,o'⟩::Mr) hc aG):c9 Y D ⟨bq,m.n⟩ I (⟨hc.b,o'⟩::Mr):=by
 refine h.step (λid e hi=>(av id e hi).imp (λq=>⟨q.1,o3 q.2⟩) λq=>q) a4 (bP.le_refl D) (λ_ _=>rfl) h.jS (λ_ _ h=>h) (λid e bO bt hi oW x ad aB=>?_) he λid e bO bt hi oW ag=>bt (h.inj _ _ _ _ _ _ hi au oW a4 ag);rcases ec.1 (a'.mem_iff.1 ad)with rfl | ad
 ·exact(bt (h.inj _ _ _ _ _ _ hi au oW a4 aB.symm)).elim
 ·exact nQ _ ad
end
section
variable{Y:gN}{D:bP}{m m':bp}{I:aJ}{M:List aD}
def amQ(an:CK Y f){l:Nat}{args:List ap}{v:ap}(h:Ry (lX Y f) l args m=some (v,m'))(ay:D l=some hc)(hu:bM D args us)(hm:c9 Y D m I M) :
  DN Y.P hc.b us I M λr I' M'=>∃ bC,D.ext bC m.n/\aU bC v r/\c9 Y bC m' I' M':=by
 unfold Ry at h;split at h
 ·rename_i n nf ps fg body au;obtain⟨L,a',cc⟩:=(hm.iU _ _ _ au ay).Mq;intro W hX;have GQ:W.heap[hc.b]?=some (.loop L):=hX.m _ a';have er:L.state=.ready:=cc.aZ;have vZ:∀ t∈ps,t<L.tmps.size:=λt av=>by rw[cc.sz];exact cc.op t (by rw[cc.ps];exact av)
  obtain⟨fB,aa,c2,df,aaI⟩:=aaH (tmps:=L.tmps) h hu vZ cc.al;have Ek:L.params.size=ps.length:=by rw[<-cc.ps];simp
  refine⟨_,_,_,_,run_yield GQ (by rw[Ek];simpa using c2),?_⟩;have rz:(L.params.zip us.toArray).foldl (λtmps (x:Nat×Value)=>match x with | (t,a)=>tmps.setIfInBounds t a) L.tmps=(ps.zip us).foldl (λ(tmps:Array Value) (p:Nat×Value)=>tmps.setIfInBounds p.1 p.2) L.tmps:=by rw[<-Ol,<-cc.ps];simp
  rw[rz];generalize bu:(ps.zip us).foldl (λ(tmps:Array Value) (p:Nat×Value)=>tmps.setIfInBounds p.1 p.2) L.tmps=T at aaI df;rw[cc.fg,cc.body];have s0:h8 n fg=true:=by rw[<-cc.fg];exact cc.x1
  have R':h8 n body=true:=by rw[<-cc.body];exact cc.nC
  refine roundIn_of_wpIn (F:=Fence.wide) (n:=0) trivial ?_;let v9:cU:=jT Y n W.heap.size W I (M.map (·.num)) (some hc.b)
  have Gr:cK v9 (λ_=>0) { tmps:=T,defers:=[] } W (λt=>.val (T.getD t undef)) (λ_=>none) I M:={
   size:=df.trans cc.sz
   defers:=⟨[],rfl,Du,λr af=>by cases af⟩
   holds:=hX
   al:=λt=>rfl
   cf:=λs cs ar=>by cases ar
   inj:=λs b3 aa=>by simp at aa
   ie:=λb o ag=>ag
   hI:=λb o ag=>.inl ag
   own:=λx ad=>.inl (cN.2 ⟨x,ad,rfl⟩)
   dH:=λb ag aA=>rfl
   out:=.refl _
   sz:=ca _
   fp:=λx ad=>by
    obtain⟨y,aE,rfl⟩:=cN.1 ad;exact(lK.1 (hX.m y aE)).1 }
  unfold Zy at aa;split at aa
  ·rename_i vq m2 amR;have fq:lD v9 Y.G Y.pr D m.n fB m { tmps:=T,defers:=[] } W:=⟨D,_,_,I,M,⟨_,Gr⟩,λt v ah=>.val (aaI t v ah),hm,bP.o5,ca _⟩;refine wpIn_mono (an _ _ _ _ _ _ _ _ amR s0 _ _ _ _ _ D m.n _ _ (λe=>by cases e) fq) ?_;rintro e cC h1⟨rfl,Sw,aaJ,aaK,dI,dq,⟨aaL,ll⟩,Sx,mi,At,ob⟩;have wg:Sw l=some hc:=by rw[At l (hm.jS _ _ ay)];exact ay
   have ab:Rw (lX Y f) l n body (m2.t.get l) vq m2=some (v,m'):=aa;unfold Rw at ab;split at ab
   ·rename_i hS amS amT amU Rx kW;obtain⟨hO,aaM,nS⟩:=(mi.iU _ _ _ kW wg).Mq;obtain⟨a9,post,dL⟩:=vi aaM;have mE:dq.Perm (⟨hc.b,.loop hO⟩::(a9++post)):=by rw[dL];exact mw
    have aaN:h1.heap[hc.b]?=some (.loop hO):=ll.holds.m _ aaM;have amV:=(lK.1 aaN).1;refine⟨_,run_beginRound aaN nS.aZ,?_⟩;obtain⟨t3,aj,aI⟩:=bf.o1 (some (fG.loop true hS amS amT amU Rx)) m2.t l;rw[aj]at ab;have wo:cK v9 aaL cC (h1.putObj hc.b (.loop { hO with state:=.busy })) aaJ aaK dI (⟨hc.b,.loop { hO with state:=.busy }⟩::(a9++post)):=
     (ll.hW (.perm mE .refl)).swap (by simp) (DH amV) (λb ag=>nr ag) (JU _ _ _)
    have r9:c9 Y Sw ⟨t3,m2.n⟩ dI (⟨hc.b,.loop { hO with state:=.busy }⟩::(a9++post)):=mi.swap kW wg mE aI (.loop { hO with state:=.busy } (by simp) ⟨rfl,nS.qm,nS.sz,nS.al,nS.ps,nS.fg,nS.body,nS.x1,nS.nC,nS.op⟩);unfold Zx at ab;obtain⟨⟨ex,avD,Ms⟩,HW,bB⟩:=cp ab;have zq:lD v9 Y.G Y.pr D m.n vq ⟨t3,m2.n⟩ cC (h1.putObj hc.b (.loop { hO with state:=.busy })):=⟨Sw,aaJ,aaK,dI,_,⟨aaL,wo⟩,Sx,r9,At,ob⟩;refine wpIn_mono (an _ _ _ _ _ _ _ _ HW R' _ _ _ _ _ D m.n _ _ (λe=>by cases e) zq) ?_;rintro e gu iP⟨rfl,aaO,amW,amX,rB,rA,⟨amY,kG⟩,avE,IH,aaP,aaQ⟩;have Mt:aaO l=some hc:=by rw[aaP l (hm.jS _ _ ay)];exact ay
    have b4:Rv l (Ms.t.get l) (DP ex) Ms=some (v,m'):=bB;unfold Rv at b4;split at b4
    ·rename_i aaR aaS aaT aaU aaV Ed;obtain⟨Sy,yx,Aw⟩:=(IH.iU _ _ _ Ed Mt).Mq;obtain⟨aaW,aaX,amZ⟩:=vi yx;have aaY:rA.Perm (⟨hc.b,.loop Sy⟩::(aaW++aaX)):=by rw[amZ];exact mw
     have CL:iP.heap[hc.b]?=some (.loop Sy):=kG.holds.m _ yx;have am0:=(lK.1 CL).1;obtain⟨t5,ef,fl⟩:=bf.o1 (some (bo (DP ex) (fG.loop false aaR aaS aaT aaU aaV) λc=>fG.done c aaR aaS aaT aaU aaV)) Ms.t l;rw[ef]at b4;cases b4;have fin:∀ jump,DP ex=jump->∃ r4 w',(Instr.endRound hc.b jump).run Y.P iP=.ok r4 w'/\∃ r I' M',Ending.returned r4=.returned r/\(∃ bC,D.ext bC m.n/\aU bC (.b (DP ex).isNone) r/\c9 Y bC ⟨t5,Ms.n⟩ I' M')/\eE I' M' w'/\Kept I M W I' M' w':=by
      rintro jump ai;let Mu:Loop:={ Sy with state:=if jump.isNone then .ready else .done,pending:=jump }
      have Mv:cK v9 amY gu (iP.putObj hc.b (.loop Mu)) amW amX rB (⟨hc.b,.loop Mu⟩::(aaW++aaX)):=
       (kG.hW (.perm aaY .refl)).swap (by simp) (DH am0) (λb ag=>nr ag) (JU _ _ _)
      refine⟨_,_,run_endRound jump CL,_,rB,_,rfl,⟨aaO,aaP,?_,IH.swap Ed Mt aaY fl ?_⟩,Mv.holds,Mv.kept rfl rfl rfl rfl⟩;·rw[ai];simp[aU]
      ·rw[ai];cases jump with
       |none=>exact .loop Mu (by simp) ⟨rfl,rfl,Aw.sz,Aw.al,Aw.ps,Aw.fg,Aw.body,Aw.x1,Aw.nC,Aw.op⟩| some c=>exact .done Mu (by simp) rfl rfl
     cases ex with
     |normal=>exact fin none rfl| exit id=>exact fin _ rfl| goto t=>exact fin _ rfl| ret=>exact fin _ rfl
    ·cases b4
   ·cases ab
  ·cases aa
 ·cases h
end
section
variable{Y:gN}
def am1(aO:cT Y.P Y.E)(bG:wV Y.P)(l1:yw Y)(an:CK Y f):Iu Y (LV Y (lX Y f)):=λub l m v m' h D I M u us nv fE hm=>by
 unfold LV at h;split at h
 ·rename_i g cQ cs;simp only[aU]at nv;obtain⟨vs,ws,aa,ab,rfl⟩:=nv;refine .inl ⟨g,_,_,rfl,?_⟩;have:=aaG aO bG l1 an h (aa.append (fE.append ab)) hm;simpa using this
 ·rename_i q;simp only[aU]at nv;obtain⟨hc,aa,rfl⟩:=nv;exact .inr ⟨hc.b,rfl,amQ an h aa fE hm⟩
 ·cases h
def lD.world{al:bf ap}{m:bp}{a:Act}(h:lD X G pr D0 n0 al m a w):∃ D F β,(∀ t,eT β (F t) (a.tmps.getD t undef))/\qS D F al:=by obtain⟨D,F,C,I,M,⟨β,aV⟩,bG,_⟩:=h;exact⟨D,F,β,aV.al,bG⟩
def lD.eval{al:bf ap}{m:bp}{a:Act}(h:lD X G pr D0 n0 al m a w)(ad:dj al x=some (.b b)):a.eval x=.bool b:=by obtain⟨D,F,β,aa,ab⟩:=h.world;obtain⟨u,aG,a8⟩:=(ab.op [x]).bE (x:=x) (by simp) ad;rw[dd aa aG,a8.bool]
def gp.ok{x:dA}{v:ap}(h:gp D x v)(ad:eT β x u):aU D v u:=by
 rcases h with⟨y,rfl,h⟩ | ⟨q,rfl,rfl⟩
 ·have:u=y:=ad;subst this;exact h
 ·have:u=.bool q:=ad;subst this;simp[aU]
def am2(aO:cT Y.P Y.E)(bG:wV Y.P)(l1:yw Y)(an:CK Y f){gJ:Bool}{n:Nat}{ps:Array Tmp}{al c6:bf ap}{m m':bp}(h:RA Y (lX Y f) gJ n (dj al x) ps.toList fg body al m=some (ex,c6,m'))(bx:h8 n (.rangeFunc x ps fg body)=true){B:Nat}{az:World}{foot:List Nat}{ro:Option Nat}{a:Act}(gj:gJ=true->ro=none)(ar:lD (jT Y n B az dn foot ro) Y.G Y.pr D0 n0 al m a w) :
  (Code.rangeFunc x ps fg body).wpIn (g8 (jT Y n B az dn foot ro)) 0 Y.P (λe a w=>e=Au ex/\lD (jT Y n B az dn foot ro) Y.G Y.pr D0 n0 c6 m' a w) a w:=by
 unfold RA at h;split at h
 ·rename_i g cap ad;have OY:=gj rfl;subst OY;obtain⟨D,F,C,I,M,⟨β,aV⟩,Sz,hm,gx,uK⟩:=ar;obtain⟨u,aG,a8⟩:=(Sz.op [x]).bE (x:=x) (by simp) ad;simp only[aU]at a8;obtain⟨vs,ws,aa,ab,rfl⟩:=a8;have iL:=aa.nP;subst iL;simp only[h8,cz]at bx;obtain⟨t1,aj,aI⟩:=Ip h;refine wpIn_rangeFunc λfn _=>?_;let gH:Loop:={ state:=.ready,pending:=none,fn:=fn,tmps:=a.tmps,params:=ps,assign:=fg,body:=body,defers:=w.heap.size }
  let l:=w.heap.size+1
  let ku:World:=(w.alloc (.deferred (some []))).alloc (.loop gH)
  have BF:=aV.VS.nY (.loop gH);have ay:(w.alloc (.deferred (some []))).heap.size=l:=by simp[l]
  rw[ay]at BF;have am3:∀ q∈M,q.num≠l:=λq aR e=>by have:=aV.holds.lt aR;omega
  have aaZ:c9 Y (D.set m.n ⟨l,0,0⟩) ⟨t1,m.n+1⟩ I (⟨l,.loop gH⟩::M):=hm.new (a:=⟨l,0,0⟩) aj am3 (.loop gH (by simp) ⟨rfl,rfl,aV.size,λt v av=>((Sz t v av).ok (aV.al t)).mono (bP.Aj _ hm.fresh),rfl,rfl,rfl,bx.1,bx.2.1,λt av=>bJ (fy.1 bx.2.2 t av)⟩);unfold ZB at aI;obtain⟨⟨v,m2⟩,mY,bB⟩:=cp aI;have aa0:=bP.Aj (D:=D) ⟨l,0,0⟩ hm.fresh;have na:bM (D.set m.n ⟨l,0,0⟩) (.y m.n::cap) (.func (.yield l) #[] #[]::ws):=.cons (by simp only[aU];exact⟨_,bP.pU _ _ _,rfl⟩) (ab.mono aa0);obtain⟨qe,Bp⟩:=aaF aO bG l1 an mY na aaZ;have PZ:=Bp ku BF.holds;have a7:=dd aV.al aG;refine⟨l,[xx w.heap.size],ku,{ target:=.fn (.func g) ws.toArray,args:=#[.func (.yield l) #[] #[]] },ku,g,(.func (.yield l) #[] #[]::ws).toArray,ku,?_,?_,λ_ _=>trivial,?_,(λh=>by cases h),?_⟩;·show(Instr.enterLoop fn a.tmps ps fg body none).run Y.P w=_;exact run_enterLoop_outer fn a.tmps ps fg body
  ·show(Deferred.ofValue (a.eval x) (#[Operand.const (.func (.yield l) #[] #[])].map a.eval)).run Y.P ku=_;rw[a7];simp[Deferred.ofValue,Act.eval]
  ·simp only[invoke];rw[show #[Value.func (.yield l) #[] #[]]++ws.toArray=(.func (.yield l) #[] #[]::ws).toArray from by apply gV;simp];exact qe _ _
  ·refine(Oz (X:=jT Y n B az dn foot none) PZ _).mono ?_;rintro e me⟨r,h2,sA,rfl,⟨II,SA,Qb,r9⟩,aa1,wX⟩;have pB:=BF.after (Mr:=[]) (by simp) aa1 wX;rw[ee]at pB;have zp:II m.n=some ⟨l,0,0⟩:=by rw[SA m.n (A' _)];exact bP.pU _ _ _
   have am4:=aaZ.le SA;have am5:qS II F al:=λt v av=>(Sz t v av).mono (bP.le_trans aa0 am4);have am6:D0.ext II n0:=λi hi=>by
    have fr:i<m.n+1:=by
     have:i<m.n:=by omega
     omega
    rw[SA i fr];show(if i=m.n then _ else D i)=D0 i;rw[bR (by omega)];exact gx i hi
   have fin:∀ (L:Loop) (t4:bf fG) (j:Option Code),(⟨l,.loop L⟩:aD)∈sA->L.state≠.busy->L.pending=j->(∃ db,m2.t.get m.n=some db)->(∀ id e,t4.get id=some e->(id=m.n/\(none:Option fG)=some e)\/(id≠m.n/\m2.t.get id=some e))->n0<=m2.n ->
     ∃ iP,(Instr.endLoop l).run Y.P me=.ok j iP/\lD (jT Y n B az dn foot none) Y.G Y.pr D0 n0 al ⟨t4,m2.n⟩ { a with defers:=[xx w.heap.size]++a.defers } iP:=by
    rintro L t4 j cc ag aC⟨db,am7⟩Qc aaQ;have am8:me.heap[l]?=some (.loop L):=aa1.m _ cc;obtain⟨a9,post,dL⟩:=vi cc;have mE:sA.Perm (⟨l,.loop L⟩::(a9++post)):=by rw[dL];exact mw
    have kx:∀ i e8,t4.get i=some e8->i≠m.n/\m2.t.get i=some e8:=λi e8 hi=>by
     rcases Qc i e8 hi with⟨_,fl⟩ | fl;·cases fl
     ·exact fl
    have kG:=(pB.hW (.perm mE .refl)).GO (o':=.loop { L with state:=.exhausted });refine⟨_,(by rw[<-aC];exact run_endLoop am8 ag),II,F,C,h2,a9++post,⟨β,kG⟩,am5,⟨λi e8 b hi ju=>?_,λi gU e8 Aq b iM hi cZ=>r9.inj i gU e8 Aq b iM (kx i e8 hi).2 (kx gU Aq cZ).2,r9.jS,r9.qR⟩,am6,aaQ⟩;refine(r9.iU i e8 b (kx i e8 hi).2 ju).mono (bP.le_refl II) λq aR aB=>?_;rcases ec.1 (mE.mem_iff.1 aR)with rfl | aR;·exact((kx i e8 hi).1 (r9.inj _ _ _ _ _ _ (kx i e8 hi).2 am7 ju zp aB.symm)).elim
    ·exact aR
   have ob:∀ {db:fG},m2.t.get m.n=some db->n0<=m2.n:=λ_=>by have:=r9.jS _ _ zp;omega
   have b4:(match m2.t.get m.n with
    |some (.loop false ..)=>m2.t.nO none m.n λt=>some (tn.normal,al,(⟨t,m2.n⟩:bp))
    |some (.done c ..)=>bo (Rz c) none λex=>m2.t.nO none m.n λt=>some (ex,al,⟨t,m2.n⟩)
    |_=>none)=some (ex,c6,m'):=bB
   split at b4;·rename_i Lh am9 ana anb anc rI;obtain⟨L,cc,aa2⟩:=(r9.iU _ _ _ rI zp).Mq;obtain⟨t4,ef,fl⟩:=bf.o1 (none:Option fG) m2.t m.n;rw[ef]at b4;cases b4;obtain⟨iP,dW,sD⟩:=fin L t4 none cc (by rw[aa2.aZ];simp) aa2.qm ⟨_,rI⟩ fl (ob rI);exact⟨none,iP,dW,rfl,sD⟩
   ·rename_i c Lh am9 ana anb anc rI;obtain⟨L,cc,er,SB⟩:=(r9.iU _ _ _ rI zp).amP;obtain⟨CB,hex,b4⟩:=cp b4;obtain⟨t4,ef,fl⟩:=bf.o1 (none:Option fG) m2.t m.n;rw[ef]at b4;cases b4;obtain⟨iP,dW,sD⟩:=fin L t4 (some c) cc (by rw[er];simp) SB ⟨_,rI⟩ fl (ob rI);refine⟨some c,iP,dW,?_⟩;unfold Rz at hex;split at hex
    ·cases hex;exact wpIn_exit ⟨rfl,sD⟩
    ·cases hex;exact wpIn_goto ⟨rfl,sD⟩
    ·cases hex;exact wpIn_ret ⟨rfl,sD⟩
    ·cases hex
   ·cases b4
 ·cases h
end
section
variable{Y:gN}
def aa3{next:Act->World->Prop}{a:Act}(h:Q (Au ex) a w)(bt:ex≠.normal):Exit.then next Q (Au ex) a w:=by cases ex<;>first | exact(bt rfl).elim | exact h
def ane(aO:cT Y.P Y.E)(bG:wV Y.P)(l1:yw Y)(iu:Y.P.follows .mixedOrders=true):∀ f k,k<=f->CK Y k:=by
 intro f
 induction f with
 |zero=>
  intro k ae gJ n c al m ex c6 m' h;have:k=0:=by omega
  subst this;cases h
 |succ f aL=>
  intro k ae;by_cases HM:k<=f;·exact aL k HM
  have tG:k=f+1:=by omega
  subst tG;have an:=aL f (ca _);have mY:=am1 aO bG l1 an;intro gJ n c al m ex c6 m' h bx B az dn foot ro D0 n0 a w gj ar;have aa:RB Y f (lX Y f) gJ n c al m=some (ex,c6,m'):=h;have ko:=@jT.gC Y n B az dn foot ro;unfold RB at aa;cases c with
  |skip=>cases aa;exact wpIn_skip ⟨rfl,ar⟩| label l=>cases aa;exact wpIn_label ⟨rfl,ar⟩| ret=>cases aa;exact wpIn_ret ⟨rfl,ar⟩| exit id=>cases aa;exact wpIn_exit ⟨rfl,ar⟩| goto l=>cases aa;exact wpIn_goto ⟨rfl,ar⟩| refuse s=>cases aa
  |seq x y=>
   simp only[h8,cz]at bx;simp only[Ic]at aa;split at aa;·rename_i fB c5 ad;refine wpIn_seq (wpIn_mono (an _ _ _ _ _ _ _ _ ad bx.1 B az dn foot ro D0 n0 a w gj ar) ?_);rintro e cC h1⟨rfl,fq⟩;exact an _ _ _ _ _ _ _ _ aa bx.2 B az dn foot ro D0 n0 cC h1 gj fq
   ·rename_i ea;refine wpIn_seq (wpIn_mono (an _ _ _ _ _ _ _ _ aa bx.1 B az dn foot ro D0 n0 a w gj ar) ?_);rintro e cC h1⟨rfl,fq⟩;exact aa3 ⟨rfl,fq⟩ λe=>ea c6 m' (by rw[aa,e])
  |block id c=>
   simp only[h8]at bx;simp only[Zz]at aa;split at aa
   ·rename_i j fB c5 ad;refine wpIn_block (wpIn_mono (an _ _ _ _ _ _ _ _ ad bx B az dn foot ro D0 n0 a w gj ar) ?_);rintro e cC h1⟨rfl,fq⟩;simp only[Au,Exit.inBlock];by_cases ai:j=id
    ·subst ai;rw[q5]at aa;have ab:some (tn.normal,fB,c5)=some (ex,c6,m'):=aa;cases ab;rw[bN rfl];exact⟨rfl,fq⟩
    ·rw[hs ai]at aa;have ab:some (tn.exit j,fB,c5)=some (ex,c6,m'):=aa;cases ab;rw[bR ai];exact⟨rfl,fq⟩
   ·rename_i ea;refine wpIn_block (wpIn_mono (an _ _ _ _ _ _ _ _ aa bx B az dn foot ro D0 n0 a w gj ar) ?_);rintro e cC h1⟨rfl,fq⟩;cases ex with
    |exit j=>exact(ea j c6 m' aa).elim| normal=>exact⟨rfl,fq⟩| goto l=>exact⟨rfl,fq⟩| ret=>exact⟨rfl,fq⟩
  |cond x gy gE=>
   simp only[h8,cz]at bx;simp only[ZA]at aa;split at aa
   ·rename_i b ad;refine wpIn_cond (ar.eval ad) ?_;cases b with
    |true=>exact an _ _ _ _ _ _ _ _ aa bx.1 B az dn foot ro D0 n0 a w gj ar| false=>exact an _ _ _ _ _ _ _ _ aa bx.2 B az dn foot ro D0 n0 a w gj ar
   ·cases aa
  |loop c=>
   simp only[h8]at bx;let J (k:Nat) (a:Act) (w:World):Prop:=k<=f+1/\∃ fB c5,lX Y k gJ n (.loop c) fB c5=some (ex,c6,m')/\lD (jT Y n B az dn foot ro) Y.G Y.pr D0 n0 fB c5 a w
   refine J0 J (m:=f+1) ⟨ca _,al,m,h,ar⟩ ?_;rintro k cC h1⟨ae,fB,c5,ab,fq⟩;cases k with
   |zero=>cases ab
   |succ k=>
    have B9:=aL k (by omega);have aj:Ic (lX Y k gJ n c fB c5) (lX Y k gJ n (.loop c))=some (ex,c6,m'):=ab;simp only[Ic]at aj;split at aj;·rename_i vq m2 ad;refine wpIn_mono (B9 _ _ _ _ _ _ _ _ ad bx B az dn foot ro D0 n0 cC h1 gj fq) ?_;rintro e dQ ku⟨rfl,iv⟩;exact⟨k,A' k,by omega,vq,m2,aj,iv⟩
    ·rename_i ea;refine wpIn_mono (B9 _ _ _ _ _ _ _ _ aj bx B az dn foot ro D0 n0 cC h1 gj fq) ?_;rintro e dQ ku⟨rfl,iv⟩;exact aa3 ⟨rfl,iv⟩ λe=>ea c6 m' (by rw[aj,e])
  |region id ops anf=>
   cases anf with
   |false=>simp only[LW]at aa;obtain⟨⟨fB,c5⟩,ad,ab⟩:=cp aa;cases ab;refine wpIn_region ?_;have:=Sc (X:=jT Y n B az dn foot ro) (G:=Y.G) (pr:=Y.pr) (D0:=D0) (n0:=n0) aO ko mY ops (λe a w=>e=Au .normal/\lD (jT Y n B az dn foot ro) Y.G Y.pr D0 n0 fB c5 a w) (λa w h=>⟨rfl,h⟩) ops.toList 0 (by simp) (JZ bx) ad ar;have dW:wpOpsIn (g8 (jT Y n B az dn foot ro)) 0 Y.P ops (λe a w=>e=Au .normal/\lD (jT Y n B az dn foot ro) Y.G Y.pr D0 n0 fB c5 a w) (List.range' 0 ops.toList.length) a w:=this;rw[xq];simpa using dW
   |true=>simp only[LW]at aa;obtain⟨⟨fB,c5⟩,ad,ab⟩:=cp aa;cases ab;exact amn (X:=jT Y n B az dn foot ro) (G:=Y.G) (pr:=Y.pr) (D0:=D0) (n0:=n0) aO ko mY iu bx ad (λa w h=>⟨rfl,h⟩) ar
  |scope c=>
   simp only[h8]at bx;have step:∀ (k:Nat) (x:Code) (fB:bf ap) (c5:bp) (cC:Act) (h1:World),h8 n x=true->Ie (lX Y f) gJ n c (k+1) x fB c5=some (ex,c6,m')->lD (jT Y n B az dn foot ro) Y.G Y.pr D0 n0 fB c5 cC h1 ->
     x.wpIn (g8 (jT Y n B az dn foot ro)) 0 Y.P (λe bO w'=>match e with
      | .goto l=>∃ bj vq m2,findLabel c l=some bj/\Ie (lX Y f) gJ n c k bj vq m2=some (ex,c6,m')/\lD (jT Y n B az dn foot ro) Y.G Y.pr D0 n0 vq m2 bO w'| e=>e=Au ex/\lD (jT Y n B az dn foot ro) Y.G Y.pr D0 n0 c6 m' bO w') cC h1:=λk x fB c5 cC h1 ad ab fq=>by
    have aj:(match lX Y f gJ n x fB c5 with
     |some (.goto l,al,m)=>bo (findLabel c l) none λbj=>Ie (lX Y f) gJ n c k bj al m
     |r=>r)=some (ex,c6,m'):=ab
    split at aj;·rename_i l vq m2 he;obtain⟨bj,ts,aI⟩:=cp aj;refine wpIn_mono (an _ _ _ _ _ _ _ _ he ad B az dn foot ro D0 n0 cC h1 gj fq) ?_;rintro e dQ ku⟨rfl,iv⟩;exact⟨bj,vq,m2,ts,aI,iv⟩
    ·rename_i ea;refine wpIn_mono (an _ _ _ _ _ _ _ _ aj ad B az dn foot ro D0 n0 cC h1 gj fq) ?_;rintro e dQ ku⟨rfl,iv⟩;cases ex with
     |goto l=>exact(ea l c6 m' aj).elim| exit j=>exact⟨rfl,iv⟩| normal=>exact⟨rfl,iv⟩| ret=>exact⟨rfl,iv⟩
   let J (l k:Nat) (a:Act) (w:World):Prop:=∃ bj fB c5,findLabel c l=some bj/\Ie (lX Y f) gJ n c k bj fB c5=some (ex,c6,m')/\lD (jT Y n B az dn foot ro) Y.G Y.pr D0 n0 fB c5 a w
   cases f with
   |zero=>cases aa
   |succ uR=>
    refine VN J (wpIn_mono (step uR c al m a w bx aa ar) ?_) ?_
    ·intro e cC h1 he;cases e with
     |goto l=>exact⟨uR,he⟩| _=>exact he
    ·rintro l k cC h1⟨bj,fB,c5,ts,ab,fq⟩;cases k with
     |zero=>cases ab
     |succ k=>
      refine⟨bj,ts,wpIn_mono (step k bj fB c5 cC h1 (St bx ts) ab fq) ?_⟩;intro e dQ ku he;cases e with
      |goto ev=>exact⟨k,A' k,he⟩| _=>exact he
  |rangeFunc x ps fg body=>exact am2 aO bG l1 an aa bx gj ar
def reckon(aO:cT Y.P Y.E)(bG:wV Y.P)(l1:yw Y)(iu:Y.P.follows .mixedOrders=true){args:List ap}{m m':bp}{v:ap}(h:Aa Y (lX Y f) g args m=some (v,m'))(hu:bM D args us)(hm:c9 Y D m I M) : Spec Y.P g us I M λr I' M'=>∃ bC,D.ext bC m.n/\aU bC v r/\c9 Y bC m' I' M':=
 aaG aO bG l1 (ane aO bG l1 iu f f (ca _)) h hu hm
end
def aa4{w':World}(h:eE I M w)(aa:eE I' M' w')(ab:Kept I [] w I' M' w') :
  eE I' (M'++M) w'/\Kept I M w I' (M'++M) w'/\∀ x∈M',∀ y∈M,x.num≠y.num:=by
 have aX:∀ x∈M,x.num<w.heap.size:=λx ad=>(lK.1 (h.m x ad)).1;have cI:∀ x∈M',w.heap.size<=x.num:=λx ad=>by
  rcases ab.vM x ad with⟨y,aE,_⟩ | h;·cases aE
  ·exact h
 have bt:∀ x∈M',∀ y∈M,x.num≠y.num:=λx ad y aE e=>by have:=aX y aE;have:=cI x ad;omega
 refine⟨⟨aa.i,λx ad=>?_,λx ad=>?_,?_⟩,⟨ab.le,ab.uy,λx ad=>?_,λb ag _=>ab.dH b ag (by simp),ab.out,ab.sz⟩,bt⟩
 ·rcases cB.1 ad with ad | ad
  ·exact aa.m x ad
  ·rw[ab.dH x.num (aX x ad) (by simp)];exact h.m x ad
 ·rcases cB.1 ad with ad | ad
  ·exact aa.d x ad
  ·cases he:I' x.num with
   |none=>rfl
   |some o=>
    rcases ab.uy _ _ he with aj | aj;·rw[h.d x ad]at aj;cases aj
    ·have:=aX x ad;omega
 ·rw[cM,uq];refine⟨aa.cd,h.cd,λa a4 b ag e=>?_⟩;obtain⟨x,ad,rfl⟩:=cN.1 a4;obtain⟨y,aE,rfl⟩:=cN.1 ag;exact bt x ad y aE e
 ·rcases cB.1 ad with ad | ad
  ·exact .inr (cI x ad)
  ·exact .inl ⟨x,ad,rfl⟩
def Spec.frame{args:List Value}{Q:Value->aJ->List aD->Prop}(h:Spec P f args I [] Q):Spec P f args I M λr I' mb=>∃ M',mb=M'++M/\(∀ x∈M',∀ y∈M,x.num≠y.num)/\(∀ b o,I b=some o->I' b=some o)/\Q r I' M':=by
 have az:∀ {w:World},eE I M w->eE I [] w:=λhw=>⟨hw.i,by simp,by simp,by simp⟩;rcases h with⟨aa,ab⟩ | h
 ·refine .inl ⟨aa,λw hw=>?_⟩;refine(ab w (az hw)).mono ?_;rintro e w'⟨v,I',M',aG,a7,cn,dr⟩;obtain⟨a8,ba,bQ⟩:=aa4 hw cn dr;exact⟨v,I',M'++M,aG,⟨M',rfl,bQ,dr.le,a7⟩,a8,ba⟩
 ·refine .inr λw hw=>?_;obtain⟨v,w',I',M',aG,a7,cn,dr⟩:=h w (az hw);obtain⟨a8,ba,bQ⟩:=aa4 hw cn dr;exact⟨v,w',I',M'++M,aG,⟨M',rfl,bQ,dr.le,a7⟩,a8,ba⟩
mutual
def jU(k:Nat):ap->ap
 | .p id off=>.p (Nat.add id k) off| .sl id off n c=>.sl (Nat.add id k) off n c| .sx id off e n=>.sx (Nat.add id k) off e n| .m id=>.m (Nat.add id k)| .y id=>.y (Nat.add id k)| .f g l r=>.f g (qV k l) (qV k r)| .H0 t v=>.H0 t (jU k v)| .t l=>.t (qV k l)| .a l=>.a (qV k l)| .b x=>.b x| .i a n=>.i a n| .s l=>.s l| .pn=>.pn| .g n off=>.g n off| .sn=>.sn| .gs n off a c=>.gs n off a c| .so=>.so| .mn=>.mn| .fn=>.fn| .ni=>.ni
def qV(k:Nat):List ap->List ap
 |[]=>[]| v::l=>jU k v::qV k l
end
section
mutual
def Ff{D0 D:bP}{k:Nat}(cW:∀ id a,D0 id=some a->D (Nat.add id k)=some a):∀ (v:ap) {u:Value},aU D0 v u->aU D (jU k v) u
 | .p id off,u,h=>by simp only[aU,jU]at h |-;obtain⟨a,a4,h⟩:=h;exact⟨a,cW _ _ a4,h⟩
 | .sl id off n c,u,h=>by simp only[aU,jU]at h |-;obtain⟨a,a4,h⟩:=h;exact⟨a,cW _ _ a4,h⟩
 | .sx id off e n,u,h=>by simp only[aU,jU]at h |-;obtain⟨a,a4,h⟩:=h;exact⟨a,cW _ _ a4,h⟩
 | .m id,u,h=>by simp only[aU,jU]at h |-;obtain⟨a,a4,h⟩:=h;exact⟨a,cW _ _ a4,h⟩
 | .y id,u,h=>by simp only[aU,jU]at h |-;obtain⟨a,a4,h⟩:=h;exact⟨a,cW _ _ a4,h⟩
 | .f g l r,u,h=>by simp only[aU,jU]at h |-;obtain⟨vs,ws,aa,ab,h⟩:=h;exact⟨vs,ws,IJ cW l aa,IJ cW r ab,h⟩
 | .H0 t v,u,h=>by simp only[aU,jU]at h |-;obtain⟨x,aa,h⟩:=h;exact⟨x,Ff cW v aa,h⟩
 | .t l,u,h=>by simp only[aU,jU]at h |-;obtain⟨x,aa,h⟩:=h;exact⟨x,IJ cW l aa,h⟩
 | .a l,u,h=>by simp only[aU,jU]at h |-;obtain⟨x,aa,h⟩:=h;exact⟨x,IJ cW l aa,h⟩
 | .b x,u,h=>by simpa only[aU,jU]using h
 | .i a n,u,h=>by simpa only[aU,jU]using h
 | .s l,u,h=>by simpa only[aU,jU]using h
 | .pn,u,h=>by simpa only[aU,jU]using h
 | .g n off,u,h=>by simpa only[aU,jU]using h
 | .sn,u,h=>by simpa only[aU,jU]using h
 | .gs n off a c,u,h=>by simpa only[aU,jU]using h
 | .so,u,h=>by simpa only[aU,jU]using h
 | .mn,u,h=>by simpa only[aU,jU]using h
 | .fn,u,h=>by simpa only[aU,jU]using h
 | .ni,u,h=>by simpa only[aU,jU]using h
def IJ{D0 D:bP}{k:Nat}(cW:∀ id a,D0 id=some a->D (Nat.add id k)=some a):∀ (l:List ap) {us:List Value},bM D0 l us->bM D (qV k l) us
 |[],us,h=>by simpa only[bM,qV]using h
 |v::l,us,h=>by simp only[bM,qV]at h |-;obtain⟨x,xs,aa,ab,h⟩:=h;exact⟨x,xs,Ff cW v aa,IJ cW l ab,h⟩
end
end
end Go.V
