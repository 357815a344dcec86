/- Part 5 of what the proofs of this seat share: the executor, data in memory, walks.
-/
import Derived.Test.YtjaibbcbjfapaaaGreatDoorK4
import Derived.Test.YtjaibbcbjfapaaaGreatDoorK3
import Derived.Lib.SliceRun
set_option linter.all false
set_option maxHeartbeats 8000000
set_option maxRecDepth 100000
namespace Go.V
open Go Go.Proofs
def oU:=@List.drop_of_length_le
def nO:=@List.mem_cons_of_mem
def oV:=@List.length_singleton
def vf:=@List.append_of_mem
def wR:=@List.length_range
def Co:=@List.filter_cons
def EM:=@List.nodup_range
def z6:=@Nat.add_eq
def Q':=@List.reverse_reverse
def EN:=@Nat.mul_eq
def EO:=@Nat.sub_eq
def Ra:=@List.drop_left
variable{E:Env}{e j t sz off hM g clock cP b1:Nat}{aB me:dH}{x y qG os lo hi mx:Operand}{other:Prop}{I:aH}{M:List aA}{b:Bool}{a dJ:Option Addr}{w u l9:Value}{α R:Type}{op:BinOp}{cS ut:Option dH}{K:Value->Prop}{P:Program}{cs us xs z7 b8:List Value}{r dst:Option Nat}{args:Array Operand}{fb:Array Nat}{D bF LG:bR}{bi:bk fF}{eB:fF}{mM:TypeDesc}{cZ hq:IntKind}{F c7:Fr}{call:aq->List aq->bA->Option (aq×bA)}{ops:List Oper}{β:Nat->Nat}{Q:Exit->Act->World->Prop}{Y:gH}{row:List (Nat×Nat)}
def z8(w:dw):aq:=.i .u64 w.toNat
def Zv(he:E e=some aB)(av:aB.size=1)(a7:aB.bL.agg=false)(P:List aq)(x:aq)(r:List aq):zY E e (P.length*aB.size) (P++x::r)=some x:=by unfold zY;rw[he,EK,av,gM,HO,Ra,a7];rfl
def Zw{F:Nat->aq->aq->Option Bool}{E:Env}{e:Nat}{aB:dH}(he:E e=some aB)(av:aB.size=1)(a7:aB.bL.agg=false)(bw:∀ a b,F e (.i .u64 a) (.i .u64 b)=some (sN a b)):∀ (l m:List dw) (EP EQ:List aq),l.length=m.length->EP.length=EQ.length -> Ce F E (EP++l.map z8) (EQ++m.map z8) ((List.range' EP.length l.length).map λi=>(e,i*aB.size))=some (decide (l=m))
 |[],[],EP,EQ,_,_=>rfl| [],_::_,_,_,h,_=>by simp at h
 |_::_,[],_,_,h,_=>by simp at h
 |a::l,b::m,EP,EQ,h,aI=>by
  have aQ:=Zw he av a7 bw l m (EP++[z8 a]) (EQ++[z8 b]) i5 (by simpa using aI);rw[cn,oV,dW,dW,qy,qy]at aQ;rw[ep,NP,b0,b0,b0,Ce,Zv he av a7,EK,aI,Zv he av a7,EK,<-aI];rw[show F e (z8 a) (z8 b)=some (decide (a=b)) by rw[<-akQ];exact bw _ _,EK,ki];by_cases aK:a=b;·subst aK;simp only[K3,s7];rw[aQ];simp
  ·simp[aK]
def kR(m:List dw):List Value:=(List.range 64).map λi=>oT (m.getD i 0)
def LH{m:List dw}(h:m.length=64):kR m=m.map oT:=by
 unfold kR;apply oA
 ·simp[h]
 ·intro i aa ad;have:i<m.length:=by simpa using ad
  simp[bT,this]
def tU(m:List dw):(kR m).length=64:=by simp[kR]
def akV{p q:List dw}(aI:p.length=64)(aO:q.length=64){V:Value->Prop}(h:V (.bool (decide (p=q)))) :
  fL Tryz.prog .eql 213 x y (.val (.agg (kR p).toArray)) (.val (.agg (kR q).toArray)) V other:=by
 rw[LH aI,LH aO];have ak:∀ l:List dw,bO (λ_=>none) (l.map z8) (l.map oT):=λl=>by
  induction l with
  |nil=>exact .nil| cons a l aQ=>exact .cons (by simp only[z8,oT,aV]) aQ
 refine Zm (X:=⟨Tryz.prog,sw,[],0,0,default,λ_=>none,[],none⟩) (D:=λ_=>none) (v:=.b (decide (p=q))) a0 ?_ (ak p) (ak q) (λu hu=>by simp only[aV]at hu;rw[hu];exact h);show HA Tryz.prog sw .eql 213 _ _=_;obtain⟨i1,aa,gw⟩:∃ i,sw 213=some i/\i.bL=.array 64 34:=⟨_,rfl,rfl⟩;obtain⟨i2,ad,qb,akW⟩:∃ i,sw 34=some i/\i.bL=.int .u64/\i.size=1:=⟨_,rfl,rfl,rfl⟩;have bw:∀ a b,yh Tryz.prog sw 7 34 (.i .u64 a) (.i .u64 b)=some (sN a b):=λa b=>by simp only[yh,ad,EK,qb];rfl
 have ae:=Zw (F:=yh Tryz.prog sw 7) ad akW (by rw[qb];rfl) bw p q [] [] Z rfl;unfold HA;rw[yh];simp only[aa,EK,gw,ad];rw[hI,hI,hj,aI]at ae;rw[Df,ae,show Tryz.prog.eqGuardType Tryz.prog.depth 213=false by kernel_rfl];rfl
structure ec where
 n:Nat
 m:List dw
 w:dw
def ec.cells(s:ec):List Value:=.int .i64 s.n::(kR s.m++[oT s.w])
def ec.val(s:ec):Value:=.agg s.cells.toArray
def ec.akX(s:ec):Prop:=s.m.length=64/\s.n<=64
def wS(b:Nat)(m:List dw):aA:=⟨b,.cells (kR m).toArray 213 (0,0)⟩
def HU{b:Nat}{m:List dw}(bc:wS b m∈M):c6 I M (⟨b,0,none⟩:Addr) 64 (kR m):=
 ⟨rfl,_,_,_,.inr ⟨_,bc,rfl,rfl⟩,by simp only[tl];exact fD (by simp[tU]),tU m⟩
def Zx{b:Nat}{m:List dw}(bc:wS b m∈M)(ah:j<64):c6 I M ((⟨b,0,none⟩:Addr).add (j*1)) 1 [oT (m.getD j 0)]:=by rw[eM _ rfl];refine⟨rfl,_,_,_,.inr ⟨_,bc,rfl,rfl⟩,?_,rfl⟩;simp only[dn,gM];rw[e2 (by simpa[kR]using ah),rf,qi];simp[kR]
def Zy(m:List dw)(hm:m.length=64)(j:Nat)(ah:j<64)(w:dw):cd (kR m) (0+j*1) [oT w]=kR (m.set j w):=by rw[LH hm,LH (by simpa using hm),dn,gM,akU _ _ _ (by simp[hm];exact ah),ri]
def n'(m:List dw)(i:Nat):List dw:=(List.range i).map (λq=>m0 m 0 64 (m.getD q 0))++m.drop i
def Zz{m:List dw}(hm:m.length=64){i:Nat}(hi:i<=64):(n' m i).length=64:=by simp[n',hm];omega
def akY{m:List dw}(hm:m.length=64){i:Nat}(hi:i<64):(n' m i).set i (m.getD i 0)=n' m i:=by
 unfold n';have h:i<m.length:=by omega
 rw[BH _ _ am];simp only[bB,wR,mh];rw[e2 h,BJ];simp[bT,h]
def akZ{m:List dw}(hm:m.length=64){i:Nat}(hi:i<64):(n' m i).set i (m0 m 0 64 (m.getD i 0))=n' m (i+1):=by
 unfold n';have h:i<m.length:=by omega
 rw[BH _ _ am];simp only[bB,wR,mh];rw[e2 h,BJ,Ef,cR,dW];rfl
def ZA{m:List dw}(hm:m.length=64):n' m 64=rI m:=by unfold n' rI;rw[oU Z,dK]
def z9(m:List dw)(k:Nat):dw:=(List.range k).foldl (λw i=>w ||| ((m.getD i 0) &&& lh i)) 0
def ak0(m:List dw)(k:Nat):z9 m (k+1)=z9 m k ||| (m.getD k 0 &&& lh k):=by unfold z9;rw[Ef,tB];rfl
def ak1{a b:Int}(h:a=b):y4 (.val (.int .u64 a)) (.val (.int .u64 b)):=by subst h;exact .refl
def ak2(m:List dw)(k:Nat):kQ (z9 m k).toNat (oS (m.getD k 0).toNat (lh k).toNat)=((z9 m (k+1)).toNat:Int):=by rw[HS,tT,ak0]
def ak3{m:List dw}{k:Nat}{w:dw}(ae:k<64)(h:w.getLsbD k=true):m0 m k (64-k) w=m0 m (k+1) (64-(k+1)) (w ||| m.getD k 0):=by rw[show 64-k=(64-(k+1))+1 by omega,m0,h];rfl
def ak4{m:List dw}{k:Nat}{w:dw}(ae:k<64)(h:w.getLsbD k=false):m0 m k (64-k) w=m0 m (k+1) (64-(k+1)) w:=by rw[show 64-k=(64-(k+1))+1 by omega,m0,h];rfl
def Rb{m:List dw}{i:Nat}(hi:i<m.length)(w:dw):(m.set i w).getD i 0=w:=by simp[bT,hi]
def ak5{M0:List aA}(s:ec)(av:s.akX):Spec Tryz.prog 193 [s.val] I M0 λv I' M'=>I'=I/\M'=M0/\∃ b:dw,v=.int .u64 b.toNat/\∀ i,i<64->(b.getLsbD i=true ↔ qB s.m i i):=by
 refine bU [1,3,4] a0 Tryz.func193 rfl rfl rfl ?_;intro B ax;obtain⟨gw,qb⟩:=av;refine bQ.mk λb1 ia P1=>?_;refine aU.mk (kR s.m) ?_ ?_
 ·refine⟨rfl,_,_,_,.inr ⟨_,.head _,rfl,rfl⟩,?_,tU _⟩;show((s.cells).drop 1).take 64=_;rw[ec.cells,Hl,tl];exact st (tU _)
 refine bQ.mk λcJ wT axd=>?_;refine b4.rF [] _ _ _ rfl rfl rfl rfl (kR s.m) rfl ?_;refine du.inv (ι:=List dw) (λm=>{ bp:=[(3,.val (ptr cJ))],cO:=I,c5:=wS cJ m::M0 }) (zV s.m) zW ?_ ?_
 ·exact⟨s.m,.start gw,.sub (.cons_cons _ (.cons _ (.refl _))) .refl,.cons .refl (.nil),.nil⟩
 intro m hm;have jF:=hm.len;refine aU.mk _ (HU (.head _)) ?_;refine bQ.mk λdS z' ak6=>?_;refine b4.rF [] _ _ _ rfl rfl rfl rfl (kR m) rfl ?_;refine du.inv (ι:=Nat) (λi=>{ bp:=[(3,.val (ptr cJ)),(4,.val (ptr dS)),(13,.val (.int .i64 i))],cO:=I,c5:=wS dS (n' m i)::(wS cJ m::M0) }) (λi=>i<=64) (λi=>64-i) ?_ ?_
 ·refine⟨0,dQ _,.refl,fQ,.nil⟩
 intro i hi;refine aZ.mk (λh=>?_) (λh=>?_)
 rotate_left
 ·have cV:i=64:=by have:¬ (i:Int)<64:=dU h;omega
  subst cV;refine aU.mk _ (HU (.head _)) ?_;refine aU.mk _ (HU (.tail _ (.head _))) ?_;refine akV (Zz jF (cc _)) jF ?_;rw[ZA jF];refine aZ.mk (λhe=>?_) (λhe=>?_)
  ·have tV:rI m=m:=cT he;refine aU.mk _ (HU (.tail _ (.head _))) ?_;refine du.inv (ι:=Nat) (λk=>{ bp:=[(7,.val (.int .u64 (z9 m k).toNat)),(40,.val (.agg (kR m).toArray)),(41,.val (.int .i64 k))],cO:=I,c5:=M0 }) (λk=>k<=64) (λk=>64-k) ?_ ?_
   ·exact⟨0,dQ _,.sub (.cons _ (.cons _ (.refl _))) .refl,fQ,.nil⟩
   intro k ae;refine aZ.mk (λh=>?_) (λh=>?_)
   rotate_left
   ·have cV:k=64:=by have:¬ (k:Int)<64:=dU h;omega
    subst cV;exact⟨_,_,.refl,rfl,rfl,z9 m 64,rfl,λi hi=>by rw[show z9 m 64=Qk m from rfl,akr m hi,hm.done tV hi hi]⟩
   have eU:k<64:=by have:(k:Int)<64:=cT h;omega
   clear h ae;have ao:k=0\/k=1\/k=2\/k=3\/k=4\/k=5\/k=6\/k=7\/k=8\/k=9\/k=10\/k=11\/k=12\/k=13\/k=14\/k=15\/k=16\/k=17\/k=18\/k=19\/k=20\/k=21\/k=22\/k=23\/k=24\/k=25\/k=26\/k=27\/k=28\/k=29\/k=30\/k=31\/k=32\/k=33\/k=34\/k=35\/k=36\/k=37\/k=38\/k=39\/k=40\/k=41\/k=42\/k=43\/k=44\/k=45\/k=46\/k=47\/k=48\/k=49\/k=50\/k=51\/k=52\/k=53\/k=54\/k=55\/k=56\/k=57\/k=58\/k=59\/k=60\/k=61\/k=62\/k=63:=by omega
   rcases ao with rfl | rfl | rfl | rfl | rfl | rfl | rfl | rfl | rfl | rfl | rfl | rfl | rfl | rfl | rfl | rfl | rfl | rfl | rfl | rfl | rfl | rfl | rfl | rfl | rfl | rfl | rfl | rfl | rfl | rfl | rfl | rfl | rfl | rfl | rfl | rfl | rfl | rfl | rfl | rfl | rfl | rfl | rfl | rfl | rfl | rfl | rfl | rfl | rfl | rfl | rfl | rfl | rfl | rfl | rfl | rfl | rfl | rfl | rfl | rfl | rfl | rfl | rfl | rfl
   all_goals
    refine cw.mk _ rfl eU ?_;refine sc.mk _ rfl ?_;refine be.mk _ (Q9 eU) ?_;refine be.mk _ (c9 Z) ?_;exact⟨_,⟨eU,Z⟩,.refl,.cons (ak1 (ak2 m _)) (xG),.nil⟩
  ·have tV:rI m≠m:=dU he;refine aU.mk _ (HU (.head _)) ?_;refine b4.rF [_] _ _ _ rfl rfl rfl rfl (kR (n' m 64)) rfl ?_;refine⟨rI m,⟨hm.next,akq jF tV⟩,.sub (.cons _ (.refl _)) (.m1 ?_),.cons .refl (.nil),.nil⟩;rw[ZA jF];rfl
 have a1:i<64:=by have:(i:Int)<64:=cT h;omega
 have pw:=Zz jF hi;refine du.inv (ι:=Nat×dw) (λs=>{ bp:=[(3,.val (ptr cJ)),(4,.val (ptr dS)),(5,.val (.int .i64 i)),(13,.val (.int .i64 i)),(16,.val (.int .i64 s.1))],cO:=I,c5:=wS dS ((n' m i).set i s.2)::(wS cJ m::M0) }) (λs=>s.1<=64/\m0 m 0 64 (m.getD i 0)=m0 m s.1 (64-s.1) s.2) (λs=>64-s.1) ?_ ?_
 ·refine⟨(0,m.getD i 0),⟨dQ _,rfl⟩,.m1 ?_,hh,.nil⟩;simp only;rw[akY jF a1]
 rintro⟨k,w⟩⟨ae,eW⟩;simp only at ae eW;refine aZ.mk (λh=>?_) (λh=>?_)
 rotate_left
 ·have cV:k=64:=by have:¬ (k:Int)<64:=dU h;omega
  subst cV;have ye:m0 m 0 64 (m.getD i 0)=w:=eW;refine be.mk _ (c9 (i:=i) Z) ?_;refine⟨i+1,⟨a1,Z⟩,.m1 ?_,fQ,.nil⟩;rw[<-akZ jF a1,ye]
 have eU:k<64:=by have:(k:Int)<64:=cT h;omega
 have gY:((n' m i).set i w).length=64:=by rw[rD,pw]
 have ZB:∀ {M:List aA},wS dS ((n' m i).set i w)∈M->c6 I M ((⟨dS,0,none⟩:Addr).add (i*1)) 1 [.int .u64 w.toNat]:=λbc=>by have:=Zx (I:=I) bc a1;rwa [Rb Z w]at this
 have su:∀ {M:List aA},wS cJ m∈M->c6 I M ((⟨cJ,0,none⟩:Addr).add (k*1)) 1 [.int .u64 (m.getD k 0).toNat]:=λbc=>Zx (I:=I) bc eU;refine cw.mk i rfl a1 ?_;refine aU.mk _ (ZB (.head _)) ?_;refine sc.mk k rfl ?_;refine aZ.mk (λad=>?_) (λad=>?_)
 ·have hw:=Zq (w:=w) eU (Zs ad);refine cY.draw a0 rfl rfl rfl ?_;refine cw.mk i rfl a1 ?_;refine aU.mk _ (ZB (.head _)) ?_;refine cw.mk k rfl eU ?_;refine aU.mk _ (su (.tail _ (.head _))) ?_;refine cw.mk i rfl a1 ?_;refine b4.iE [] (wS cJ m::M0) (kR ((n' m i).set i w)) _ rfl ?_ rfl (kR ((n' m i).set i (w ||| m.getD k 0))) ?_ ?_
  ·rw[mT,tU];show 0+i*1+1<=64;omega
  ·show cd _ _ [Value.int .u64 (kQ w.toNat (m.getD k 0).toNat)]=_;rw[tT];have:=Zy ((n' m i).set i w) gY i a1 (w ||| m.getD k 0);rw[GC]at this;exact this
  refine be.mk _ (c9 (i:=k) Z) ?_;exact⟨(k+1,w ||| m.getD k 0),⟨⟨eU,by rw[eW,ak3 eU hw]⟩,ce⟩,.refl,hh,.nil⟩
 ·have hw:=Zr (w:=w) eU (Zt ad);refine be.mk _ (c9 (i:=k) Z) ?_;exact⟨(k+1,w),⟨⟨eU,by rw[eW,ak4 eU hw]⟩,ce⟩,.refl,hh,.nil⟩
def LI{k:Nat}(ae:k<64):IntKind.u64.wrap (1*2^(min k IntKind.u64.bits))=((1#64 <<< k).toNat:Int):=by
 have aa:(1#64 <<< k).toNat=2^k:=by rw[BitVec.toNat_shiftLeft,Nat.shiftLeft_eq];have:2^k<2^64:=PT bv ae;simp only[Ec];rw[Ee (by decide:1<2^64),nt];exact Ee this
 have ad:min k IntKind.u64.bits=k:=by simp only[IntKind.bits];omega
 have aj:2^k<2^64:=PT bv ae;rw[aa,ad,Int.one_mul];have e:((2:Int)^k)=((2^k:Nat):Int):=by simp
 rw[e];generalize 2^k=q at aj;unfold IntKind.wrap;simp only[IntKind.bits,IntKind.signed];simp;omega
def ak7(l:List UInt8)(b:UInt8):oP (l++[b])=(oP l).or (u' b):=by simp[oP]
def ak8(n:Nat)(h:n<256):IntKind.u8.wrap (n:Int)=(n:Int):=by unfold IntKind.wrap;simp only[IntKind.bits,IntKind.signed];simp;omega
def ZC(s:ByteArray)(av:s.size<=140737488355328):Spec Tryz.prog 90 [.string s] I M λr I' M'=>r=(oP s.data.toList).val/\I'=I/\M'=M:=by
 refine bU [] a0 Tryz.func90 rfl rfl rfl ?_;intro B ax;have dk:s.data.toList.length=s.size:=xJ;refine du.inv (ι:=Nat) (λi=>{ bp:=[(0,.val (.string s)),(2,.ref 2 0),(3,.ref 3 0),(4,.val (.int .i64 i))],cl:=[(2,bj.zero.cells),(3,(oP (s.data.toList.take i)).cells)],cO:=I,c5:=M }) (λi=>i<=s.size) (λi=>s.size-i) ?_ ?_
 ·exact⟨0,dQ _,.refl,dM,.cons rfl (.cons rfl (.nil))⟩
 intro i hi;refine aZ.mk (λh=>?_) (λh=>?_)
 rotate_left
 ·have cV:s.size<=i:=by have:¬ (i:Int)<(s.size:Int):=dU h;omega
  have hw:s.data.toList.take i=s.data.toList:=fD Z;refine⟨_,_,.refl,?_,rfl,rfl⟩;show(oP (s.data.toList.take i)).val=_;rw[hw]
 have a1:i<s.size:=by have:(i:Int)<(s.size:Int):=cT h;omega
 have Gf:s.data.toList[i]' Z=s[i]:=by rw[Array.getElem_toList];rfl
 have HV:oP (s.data.toList.take (i+1))=(oP (s.data.toList.take i)).or (u' s[i]):=by rw[gk Z,ak7,Gf]
 generalize oP (s.data.toList.take i)=w at HV;have ag:=s[i].toNat_lt;have em:((s[i].toNat:Int)).tmod 64=((s[i].toNat%64:Nat):Int):=rfl;have lN:((s[i].toNat:Int)).tdiv 64=((s[i].toNat/64:Nat):Int):=rfl;refine cY.draw a0 rfl rfl rfl ?_;refine s8.mk i rfl a1 ?_;refine xr.mk bv ?_;rcases(by omega:s[i].toNat/64=0\/s[i].toNat/64=1\/s[i].toNat/64=2\/s[i].toNat/64=3)with ah | ah | ah | ah
 ·refine be.mk 0 aw' ?_;refine cw.mk 0 rfl bv ?_;refine s8.mk i rfl a1 ?_;refine xr.mk bv ?_;refine sc.mk (s[i].toNat%64) em ?_;refine be.mk _ (LI Z) ?_;refine cw.mk 0 rfl bv ?_;refine be.mk _ (c9 (i:=i) Z) ?_;refine⟨i+1,⟨a1,Z⟩,.refl,dM,.cons rfl (.cons ?_ .nil)⟩;rw[HV,show u' s[i]=bj.one 0 (1#64 <<< (s[i].toNat%64)) by rw[u',ah]];refine congrArg some ?_;show([.int .u64 (kQ w.a.toNat (1#64 <<< (s[i].toNat%64)).toNat),.int .u64 w.b.toNat,.int .u64 w.c.toNat,.int .u64 w.d.toNat]:List Value)=_;rw[tT];simp[bj.cells,bj.or,bj.one]
 ·refine be.mk 1 aw' ?_;refine cw.mk 1 rfl bv ?_;refine s8.mk i rfl a1 ?_;refine xr.mk bv ?_;refine sc.mk (s[i].toNat%64) em ?_;refine be.mk _ (LI Z) ?_;refine cw.mk 1 rfl bv ?_;refine be.mk _ (c9 (i:=i) Z) ?_;refine⟨i+1,⟨a1,Z⟩,.refl,dM,.cons rfl (.cons ?_ .nil)⟩;rw[HV,show u' s[i]=bj.one 1 (1#64 <<< (s[i].toNat%64)) by rw[u',ah]];refine congrArg some ?_;show([.int .u64 w.a.toNat,.int .u64 (kQ w.b.toNat (1#64 <<< (s[i].toNat%64)).toNat),.int .u64 w.c.toNat,.int .u64 w.d.toNat]:List Value)=_;rw[tT];simp[bj.cells,bj.or,bj.one]
 ·refine be.mk 2 aw' ?_;refine cw.mk 2 rfl bv ?_;refine s8.mk i rfl a1 ?_;refine xr.mk bv ?_;refine sc.mk (s[i].toNat%64) em ?_;refine be.mk _ (LI Z) ?_;refine cw.mk 2 rfl bv ?_;refine be.mk _ (c9 (i:=i) Z) ?_;refine⟨i+1,⟨a1,Z⟩,.refl,dM,.cons rfl (.cons ?_ .nil)⟩;rw[HV,show u' s[i]=bj.one 2 (1#64 <<< (s[i].toNat%64)) by rw[u',ah]];refine congrArg some ?_;show([.int .u64 w.a.toNat,.int .u64 w.b.toNat,.int .u64 (kQ w.c.toNat (1#64 <<< (s[i].toNat%64)).toNat),.int .u64 w.d.toNat]:List Value)=_;rw[tT];simp[bj.cells,bj.or,bj.one]
 ·refine be.mk 3 aw' ?_;refine cw.mk 3 rfl bv ?_;refine s8.mk i rfl a1 ?_;refine xr.mk bv ?_;refine sc.mk (s[i].toNat%64) em ?_;refine be.mk _ (LI Z) ?_;refine cw.mk 3 rfl bv ?_;refine be.mk _ (c9 (i:=i) Z) ?_;refine⟨i+1,⟨a1,Z⟩,.refl,dM,.cons rfl (.cons ?_ .nil)⟩;rw[HV,show u' s[i]=bj.one 3 (1#64 <<< (s[i].toNat%64)) by rw[u',ah]];refine congrArg some ?_;show([.int .u64 w.a.toNat,.int .u64 w.b.toNat,.int .u64 w.c.toNat,.int .u64 (kQ w.d.toNat (1#64 <<< (s[i].toNat%64)).toNat)]:List Value)=_;rw[tT];simp[bj.cells,bj.or,bj.one]
section
variable{I:aH}{M:List aA}{d:al}{x:aX}{a:Option Addr}{n c:Nat}{ks:List kP}
def LJ{z:Int}(h:ga z):((BitVec.ofInt 64 z).toNat:Int)=z:=by obtain⟨w,rfl⟩:=akm h;rw[B']
end
def vg(t:bs):Prop:=∀ n∈t.ns,n.aF<=3000000000000
abbrev dV(X:cN)(G:GT)(pr:lV):gH:=⟨X.P,X.E,G,pr⟩
section
variable{X:cN}{G:GT}{pr:lV}{D:bR}{m:bA}{F:Fr}{an:bk aq}{C:de}{I:aH}{M:List aA}{V:dx->Prop}{O:Prop}
def oW{a b:α}(h:some a=some b):a=b:=by cases h;rfl
def ak9{k e4:IntKind}{a b:Int}{v:aq}{O:Prop}(h:Qq op k e4 a b=some v)(ae:∀ u,aV D v u->K u):lJ op cS (.val (.int k a)) (.val (.int e4 b)) K O:=by
 have mk:∀ {q:aq} {u:Value},some q=some v->aV D q u->K u:=λe hu=>ae _ (oW e ▸ hu);unfold Qq at h;split at h
 ·split at h
  ·rename_i j;refine⟨j,rfl,⟨_,rfl,mk h ?_⟩⟩;simp only[aV];rw[z3,akH,ki,Zi]
  ·cases h
 ·split at h
  ·rename_i j;refine⟨j,rfl,mk h ?_⟩;simp only[aV];rw[akI,ki,Zi]
  ·cases h
 all_goals obtain⟨aO,h⟩:=fV h
 all_goals simp only[lJ,aO,cF]
 ·exact⟨_,rfl,mk h (by simp only[aV];rw[z3,akC])⟩
 ·exact⟨_,rfl,mk h (by simp only[aV];rw[z3,akD])⟩
 ·exact⟨_,rfl,mk h (by simp only[aV];rw[z3,akE])⟩
 ·obtain⟨ax,h⟩:=z2 h;refine⟨λe=>?_,_,rfl,mk h (by simp only[aV];rw[z3,akF])⟩;rw[Cl,e]at ax;simp at ax
 ·obtain⟨ax,h⟩:=z2 h;refine⟨λe=>?_,mk h (by simp only[aV];rw[akG])⟩;rw[Cl,e]at ax;simp at ax
 ·obtain⟨r,af,h⟩:=ct h;rw[Lw af];exact mk h io
 ·obtain⟨r,af,h⟩:=ct h;rw[Lw af];exact mk h io
 ·obtain⟨r,af,h⟩:=ct h;rw[Lw af];exact mk h io
 ·obtain⟨r,af,h⟩:=ct h;rw[Lw af];exact mk h io
 ·obtain⟨r,af,h⟩:=ct h;rw[akB]at af;have ak:v=.b r:=(oW h).symm;subst ak;have hA:K (.bool r):=ae _ io;cases op<;>first
   |contradiction|(rw[af];exact hA)
def Rc(b:Bool):bX b false true=!b:=by cases b<;>rfl
def ala{a b:List UInt8}{v:aq}{O:Prop}(h:Qr op a b=some v)(ae:∀ u,aV D v u->K u) :
  lJ op cS (.val (.string ⟨a.toArray⟩)) (.val (.string ⟨b.toArray⟩)) K (fL P op t x y (.val (.string ⟨a.toArray⟩)) (.val (.string ⟨b.toArray⟩)) K O):=by
 unfold Qr at h;split at h
 ·cases h;refine ae _ ?_;simp only[aV];rw[LD,EI]
 ·cases h;refine ae _ ?_;simp only[aV];rw[LD,EI,Rc]
 ·obtain⟨az,h⟩:=fV h;cases h;have pk:=bJ az;refine fL.concat (by simpa[ByteArray.size]using pk) (ae _ ?_);simp only[aV];congr 1
 ·cases h
def alb{a:Bool}{v:aq}{O:Prop}(h:Qs op cS a b=some v)(ae:∀ u,aV D v u->K u):lJ op cS (.val (.bool a)) (.val (.bool b)) K O:=by
 unfold Qs at h;split at h
 ·split at h
  ·cases h;exact ae _ io
  ·cases h;exact ae _ io
  ·cases h
 ·cases h
def alc{x:aq}(h:Qt x=some b)(hu:aV D x u):∃ a n c,u=.slice a n c/\b=a.isNone:=by
 cases x<;>simp only[Qt,kr,reduceCtorEq]at h<;>subst h<;>simp only[aV]at hu
 ·exact⟨_,_,_,hu,rfl⟩
 ·obtain⟨a,-,hu⟩:=hu;exact⟨_,_,_,hu,rfl⟩
 ·obtain⟨a,-,-,hu⟩:=hu;exact⟨_,_,_,hu,rfl⟩
 ·exact⟨_,_,_,hu,rfl⟩
 ·obtain⟨a,c,hu⟩:=hu;exact⟨_,_,_,hu,rfl⟩
def ald{x:aq}(h:Qu x=some b)(hu:aV D x u):∃ p,u=.pointer p/\b=p.isNone:=by
 cases x<;>simp only[Qu,kr,reduceCtorEq]at h<;>subst h<;>simp only[aV]at hu
 ·exact⟨_,hu,rfl⟩
 ·obtain⟨a,-,hu⟩:=hu;exact⟨_,hu,rfl⟩
 ·exact⟨_,hu,rfl⟩
def ale(h:P.underlying t=some (.slice e))(a:Option Addr)(n c:Nat)(w:World):(Op.equal t (.slice a n c) (.slice none 0 0)).run P w=.ok a.isNone w:=by
 have key:∀ d,(Op.equalIn (d+1) t (.slice a n c) (.slice none 0 0)).run P w=.ok a.isNone w:=λd=>by cases a<;>simp[Op.equalIn,run_underlying h]
 exact key 9999
def alf(h:P.underlying t=some (.pointer e))(p:Option Addr)(w:World):(Op.equal t (.pointer p) (.pointer none)).run P w=.ok p.isNone w:=by
 have key:∀ d,(Op.equalIn (d+1) t (.pointer p) (.pointer none)).run P w=.ok p.isNone w:=λd=>by cases p<;>simp[Op.equalIn,run_underlying h]
 exact key 9999
def ZD{v:aq}{p q:Value}(aw:∀ w,op=.eql\/op=.neq->(eqGuard op t x y p q).run P w=.ok () w)(he:∀ w,(Op.equal t p q).run P w=.ok b w)(ag:∀ w,(binOp .eql t p q).run P w=.ok (.bool b) w)(aC:∀ w,(binOp .neq t p q).run P w=.ok (.bool (!b)) w)(h:Lf op b=some v){O:Prop}(ae:∀ u,aV D v u->K u):fL P op t x y (.val p) (.val q) K O:=by
 unfold Lf at h;split at h
 ·cases h;refine .mk p q (.bool b) rfl rfl (λw=>?_) (ae _ io);simp only[cp,aw w (.inl rfl),bY,ag w]
 ·cases h;refine .mk p q (.bool (!b)) rfl rfl (λw=>?_) (ae _ io);simp only[cp,aw w (.inr rfl),bY,aC w]
 ·cases h
theorem alg(aL:cU X.P X.E){x y v:aq}{alh:Operand}{O:Prop}(h:Qv X.P X.E op t x y=some v)(ab:aV D x u)(aG:aV D y w)(ae:∀ u,aV D v u->K u) :
  lJ op (X.E t) (.val u) (.val w) K (fL X.P op t qG alh (.val u) (.val w) K O):=by
 unfold Qv at h;split at h
 ·rw[ab.int,aG.int];exact ak9 h ae
 ·rw[ab.str,aG.str];exact ala h ae
 ·rw[ab.bool,aG.bool];exact alb h ae
 ·obtain⟨us,aa,rfl⟩:=ab.agg;obtain⟨ws,ad,rfl⟩:=aG.agg;exact Zm aL h aa ad ae
 ·obtain⟨i,hi,h⟩:=ct h;split at h
  ·rename_i e ox;obtain⟨b,aa,h⟩:=ct h;obtain⟨a,n,c,rfl,rfl⟩:=alc aa ab;simp only[aV]at aG;subst aG;obtain⟨d,fJ,fj⟩:=(aL _ _ hi).fp;have ad:d=.slice e:=by rw[ox]at fj;cases d<;>simp_all[fo]
   subst ad;have he:=ale fJ a n c;exact ZD (λw aD=>UV) he (λw=>wp) (λw=>wp) h ae
  ·cases h
 ·obtain⟨i,hi,h⟩:=ct h;split at h
  ·rename_i e ox;obtain⟨b,aa,h⟩:=ct h;obtain⟨p,rfl,rfl⟩:=ald aa ab;simp only[aV]at aG;subst aG;obtain⟨d,fJ,fj⟩:=(aL _ _ hi).fp;have ad:d=.pointer e:=by rw[ox]at fj;cases d<;>simp_all[fo]
   subst ad;have he:=alf fJ p;exact ZD (λw aD=>UV) he (λw=>wp) (λw=>wp) h ae
  ·cases h
 ·cases h
variable(aL:cU X.P X.E)(hm:dc (dV X G pr) D m I M)
theorem ER{v:aq}{n:Nat}(h:v.nat=some n):∃ k,v=.i k (.ofNat n):=by
 unfold aq.nat at h;split at h
 ·cases h;exact⟨_,rfl⟩
 ·cases h
theorem ZE{x v:aq}{n:Nat}(h:HB x n=some v)(ab:aV D x u):∃ a,u=.pointer (some a)/\a.spot=none/\aV D v (.pointer (some (a.add n))):=by
 unfold HB at h;split at h
 ·cases h;obtain⟨a,a7,rfl⟩:=ab.ptr;refine⟨_,rfl,rfl,?_⟩;rw[eM _ rfl];simp only[aV];exact⟨a,a7,by simp only[z6,ux]⟩
 ·cases h;refine⟨_,ab.qD,rfl,?_⟩;rw[eM _ rfl];simp only[aV];rfl
 ·cases h
theorem ali{x v:aq}(h:Lg x j sz=some v)(ab:aV D x u):∃ a n c,u=.slice (some a) n c/\j<n/\aV D v (.pointer (some (a.add (j*sz)))):=by
 unfold Lg at h;split at h
 ·cases ag:Nat.blt j _ with
  |false=>rw[ag]at h;cases h| true=>rw[ag]at h;cases h;obtain⟨a,a7,rfl⟩:=ab.sP;refine⟨_,_,_,rfl,bJ ag,?_⟩;rw[eM _ rfl];simp only[aV];exact⟨a,a7,by simp only[z6,EN,ux]⟩
 ·cases ag:Nat.blt j _ with
  |false=>rw[ag]at h;cases h| true=>rw[ag]at h;cases h;obtain⟨a,a7,_,rfl⟩:=ab.ve;refine⟨_,_,_,rfl,bJ ag,?_⟩;rw[eM _ rfl];simp only[aV];exact⟨a,a7,by simp only[z6,EN,ux]⟩
 ·cases ag:Nat.blt j _ with
  |false=>rw[ag]at h;cases h| true=>rw[ag]at h;cases h;refine⟨_,_,_,ab.Q4,bJ ag,?_⟩;rw[eM _ rfl];simp only[aV];rfl
 ·cases h
theorem ZF{cs:List aq}{v:aq}(h:Li aB cs off=some v)(ao:bO D cs us) :
  off+aB.size<=us.length/\aV D v (pack aB.bL.agg ((us.drop off).take aB.size)):=by
 unfold Li at h;obtain⟨ax,h⟩:=z2 h;obtain⟨l,aa,ad⟩:=ct h;have iC:aB.size≠0:=λe=>by rw[e]at ax;cases ax
 obtain⟨rfl,az⟩:=Zj aa;rw[HO]at ad az;refine⟨?_,LB ad ((ao.drop off).take _)⟩;have:=ao.len;simp at az;omega
theorem ZG{i:Nat}{iw:dH}(h:Lh E t i=some (off,iw)):∃ a b z et fA,E t=some ⟨a,b,z,.struct et⟩/\et[i]?=some (fA,off)/\E fA=some iw:=by
 unfold Lh at h;split at h
 ·rename_i a b z et au;split at h
  ·rename_i fA o aE;rw[z5]at aE;split at h
   ·rename_i f tH;cases h;exact⟨_,_,_,_,fA,au,aE,tH⟩
   ·cases h
  ·cases h
 ·cases h
theorem alj(h:Qy E t=some (r,aB)):(∃ a b z e,E t=some ⟨a,b,z,.slice e⟩/\E e=some aB/\r=none)\/∃ a b z n e,E t=some ⟨a,b,z,.array n e⟩/\E e=some aB/\r=some n:=by
 unfold Qy at h;split at h
 ·rename_i a b z e au;split at h
  ·cases h;exact .inl ⟨_,_,_,_,au,at9,rfl⟩
  ·cases h
 ·rename_i a b z n e au;split at h
  ·cases h;exact .inr ⟨_,_,_,_,_,au,at9,rfl⟩
  ·cases h
 ·cases h
theorem alk{x i v:aq}(h:HC X.E t (some x) (some i)=some v)(ab:aV D x u)(hi:aV D i w){ρ:Operand->dx}{gD:Operand}(Rd:dz ρ qG=.val u)(h7:dz ρ gD=.val w)
  (k:∀ x,gv D x v->V x):cK X (.index t qG gD) ρ C I M V O:=by
 unfold HC at h;split at h
 ·rename_i l gQ au aa ad;cases aa;cases ad;obtain⟨j,ah,h⟩:=ct h;obtain⟨gl,rfl⟩:=ER ah;have fx:Qz l j=some v:=h;unfold Qz at fx;obtain⟨b,ag,dT⟩:=ct fx;cases dT;rw[z5]at ag;rw[ab.str]at Rd;rw[hi.int]at h7;have a1:=(iP.1 ag).1;simp only[cK,au,Rd,h7];refine⟨j,rfl,by simpa[ByteArray.size]using a1,k _ (.val ?_)⟩;simp only[aV];have:(⟨l.toArray⟩:ByteArray)[j]'(by simpa[ByteArray.size]using a1)=b:=by have:=(iP.1 ag).2;show l.toArray[j]'_=b;simpa using this
  rw[this];rfl
 ·rename_i n e cs gQ au aa ad;cases aa;cases ad;obtain⟨aB,he,h⟩:=ct h;obtain⟨j,ah,h⟩:=ct h;obtain⟨gl,rfl⟩:=ER ah;obtain⟨us,fI,rfl⟩:=ab.agg;unfold YM at h;obtain⟨ag,h⟩:=fV h;rw[cC]at ag;obtain⟨aj,aJ⟩:=ZF h fI;rw[hi.int]at h7;simp only[cK,au,Rd,h7,he];have dk:Nat.beq (n*aB.size) us.toArray.size=true:=by have bD:=ea ag.1;rw[s5,fI.len,<-bD];exact ta _
  rw[dk];simp only[cF];exact⟨j,rfl,bJ ag.2,k _ (.val aJ)⟩
 ·cases h
theorem alm{x v:aq}{l:Nat}{h:Option Nat}(av:Qw x sz l h=some v)(ab:aV D x u):∃ a n c,u=.slice a n c/\l<=h.getD n/\h.getD n<=c/\(h=none->l<=n) /\
  aV D v (.slice (if c=l then a else a.map (·.add (l*sz))) (h.getD n-l) (c-l)):=by
 unfold Qw at av;split at av
 ·cases ag:(Nat.beq l 0&&Nat.beq (h.getD 0) 0)with
  |false=>rw[ag]at av;cases av| true=>rw[ag]at av;cases av;rw[cC]at ag;have aa:=ea ag.1;have ad:=ea ag.2;subst aa;refine⟨none,0,0,ab.Cm,Z,Z,λ_=>Z,?_⟩;rw[ad];simp[aV]
 ·rename_i id off n c;obtain⟨a,a7,rfl⟩:=ab.sP;simp only at av;cases ag:(Nat.ble l (h.getD n)&&Nat.ble (h.getD n) c)with
  |false=>rw[ag]at av;cases av
  |true=>
   rw[ag]at av;simp only[cF]at av;rw[cC]at ag;have aa:=bJ ag.1;have ad:=bJ ag.2;refine⟨_,n,c,rfl,aa,ad,λe=>by subst e;exact aa,?_⟩;rw[Q3]at av;by_cases e:c=l;·subst e;simp only[K3,cF]at av;cases av;simp only[s7,aV];exact⟨a,a7,by simp only[EO,mh]⟩
   ·simp only[e,decide_false,cD]at av;cases av;simp only[e,mB,aV,kW];refine⟨a,a7,?_⟩;rw[eM _ rfl];simp only[z6,EN,EO,ux]
 ·rename_i id off e n;obtain⟨a,a7,bn,rfl⟩:=ab.ve;simp only at av;cases ag:(Nat.ble l (h.getD n)&&Nat.ble (h.getD n) n)with
  |false=>rw[ag]at av;cases av
  |true=>
   rw[ag]at av;simp only[cF]at av;rw[cC]at ag;have aa:=bJ ag.1;have ad:=bJ ag.2;refine⟨_,n,a.c-e,rfl,aa,Z,λe=>by subst e;exact aa,?_⟩;cases ao:(Nat.beq l 0||Nat.blt l n)with
   |true=>
    rw[ao]at av;simp only[cF]at av;cases av;rw[nj]at ao;simp only[aV];refine⟨a,a7,by simp only[z6,EO];omega,?_⟩;have aj:a.c-e-l=a.c-(e+l):=by omega
    by_cases ax:l=0
    ·subst ax;simp only[zj,DT,kW,z6,EN,EO,pg];split
     ·rfl
     ·rw[eM _ rfl];simp
    ·have aJ:l<n:=by
      rcases ao with ao | ao;·exact absurd (ea ao) ax
      ·exact bJ ao
     rw[bS Z];simp only[kW];rw[eM _ rfl];simp only[z6,EN,EO,ux,aj]
   |false=>
    rw[ao]at av;simp only[cD]at av;cases av;rw[tk]at ao;have aJ:¬ l<n:=λa1=>by have:=Eb (show l.succ<=n from a1);rw[show Nat.blt l n=Nat.ble l.succ n from rfl,this]at ao;cases ao.2
    have bD:h.getD n-l=0:=by omega
    simp only[aV,bD];split;·exact⟨_,_,rfl⟩
    ·exact⟨_,_,rfl⟩
 ·cases av
end
section
variable{X:cN}{G:GT}{pr:lV}{D:bR}{m:bA}{F:Fr}{an:bk aq}{C:de}{I:aH}{M:List aA}{V:dx->Prop}{O:Prop}
def aln(c:Bool)(a b:Value):JO c (.val a) (.val b)=.val (bif c then a else b):=by cases a<;>cases b<;>cases c<;>rfl
def ZH{o:Option Operand}{xs:List Operand}(H:jf D F an xs)(ab:∀ y,o=some y->y∈xs)(h:Cf (o.map (dq an))=some r) :
  (o.map (dz (dr F))=none/\r=none)\/∃ k n,o.map (dz (dr F))=some (.val (.int k (Int.ofNat n)))/\r=some n:=by
 cases o with
 |none=>simp[Cf]at h;exact .inl ⟨rfl,h.symm⟩
 |some y=>
  simp only[kW,Cf]at h;cases ak:dq an y with
  |none=>rw[ak]at h;cases h
  |some v=>
   rw[ak]at h;simp only at h;split at h;·rename_i n aC;cases h;obtain⟨k,rfl⟩:=ER aC;obtain⟨u,hu,af⟩:=H.bG (ab y rfl) ak;rw[af.int]at hu;exact .inr ⟨k,n,by simp only[kW];exact congrArg some hu,rfl⟩
   ·cases h
def Re(l:List UInt8)(lo hi:Nat):(⟨(Qx l lo hi).toArray⟩:ByteArray)=(⟨l.toArray⟩:ByteArray).extract lo hi:=by apply xL;apply lH;unfold Qx;rw[HO];simp[Ow,List.extract_eq_take_drop]
def alo{v:aq}{n:Nat}(h:wL v=some n)(ak:aV D v u):∃ a c,u=.slice a n c:=by
 unfold wL at h;split at h
 ·cases h;exact⟨_,_,ak.Cm⟩
 ·cases h;obtain⟨a,c,rfl⟩:=ak.Ly;exact⟨_,_,rfl⟩
 ·cases h;obtain⟨a,_,rfl⟩:=ak.sP;exact⟨_,_,rfl⟩
 ·cases h;obtain⟨a,_,_,rfl⟩:=ak.ve;exact⟨_,_,rfl⟩
 ·cases h;exact⟨_,_,ak.Q4⟩
 ·cases h
def alp(aL:cU X.P X.E){b:Builtin}{fb:Array TypeId}{v:aq}(h:QC X.E b fb.toList (n9 an args.toList)=some v)(H:jf D F an args.toList)(k:∀ x,gv D x v->V x) :
  cK X (.call { callee:=.builtin b,args:=args,argTypes:=fb }) (dr F) C I M V O:=by
 unfold QC at h;split at h
 ·
  unfold YR at h;split at h
  ·rename_i t w au az;obtain⟨us,aK,a'⟩:=H.mC (λ_ h=>h) az;obtain⟨u,xs,bh,bW,rfl⟩:=a'.kj;have:=bW.nM;subst this;have eu:jW (dr F) args.toList=some [u]:=aK;simp only[cK,au,eu];split at h
   ·rename_i a b z e vh oz;unfold Lj at h;obtain⟨n,aC,h⟩:=ct h;have dT:some (aq.i .i64 (.ofNat n))=some v:=h;cases dT;obtain⟨bN,c,rfl⟩:=alo aC bh;simp only[oz];exact k _ (.val lw)
   ·rename_i a b z l oz;cases h;rw[bh.str];simp only[oz];refine k _ (.val ?_);simp only[aV];simp[ByteArray.size]
   ·rename_i a b z n e vh oz;cases h;cases u<;>(simp only[oz];exact k _ (.val lw))
   ·cases h
  ·cases h
 ·unfold YS at h;split at h
  ·rename_i eQ a cZ b az;obtain⟨us,aK,a'⟩:=H.mC (λ_ h=>h) az;obtain⟨u,xs,bh,bW,rfl⟩:=a'.kj;obtain⟨w,ys,fu,k9,rfl⟩:=bW.kj;have:=k9.nM;subst this;have eu:jW (dr F) args.toList=some [u,w]:=aK;rw[bh.int,fu.int]at eu;simp only[cK,eu];cases h;refine k _ (.val ?_);simp only[aV];rw[ki,Lv];by_cases lf:a<=b
   ·simp[lf];omega
   ·simp[lf];omega
  ·cases h
 ·unfold YT at h;split at h
  ·rename_i eQ a cZ b az;obtain⟨us,aK,a'⟩:=H.mC (λ_ h=>h) az;obtain⟨u,xs,bh,bW,rfl⟩:=a'.kj;obtain⟨w,ys,fu,k9,rfl⟩:=bW.kj;have:=k9.nM;subst this;have eu:jW (dr F) args.toList=some [u,w]:=aK;rw[bh.int,fu.int]at eu;simp only[cK,eu];cases h;refine k _ (.val ?_);simp only[aV];rw[ki,Lv];by_cases lf:a<=b
   ·simp[lf];omega
   ·simp[lf];omega
  ·cases h
 ·unfold YU at h;split at h
  ·rename_i t id off n c au az;split at h
   ·rename_i a b z e oz;cases h;obtain⟨us,aK,a'⟩:=H.mC (λ_ h=>h) az;obtain⟨u,xs,bh,bW,rfl⟩:=a'.kj;have:=bW.nM;subst this;obtain⟨bN,a7,rfl⟩:=bh.sP;have eu:jW (dr F) args.toList=some [_]:=aK;simp only[cK,au,eu,oz];exact k _ (.val lw)
   ·cases h
  ·cases h
 ·unfold YV at h;split at h
  ·rename_i az;cases h;obtain⟨us,aK,a'⟩:=H.mC (λ_ h=>h) az;obtain⟨u,xs,bh,bW,rfl⟩:=a'.kj;have:=bW.nM;subst this;rw[bh.Cm]at aK;have eu:jW (dr F) args.toList=some [_]:=aK;simp only[cK,eu];exact k _ (.val io)
  ·rename_i id off n c az;obtain⟨ax,h⟩:=z2 h;cases h;obtain⟨us,aK,a'⟩:=H.mC (λ_ h=>h) az;obtain⟨u,xs,bh,bW,rfl⟩:=a'.kj;have:=bW.nM;subst this;obtain⟨bN,a7,rfl⟩:=bh.sP;have eu:jW (dr F) args.toList=some [_]:=aK;simp only[cK,eu];refine⟨λe=>?_,k _ (.val ?_)⟩
   ·have:c=0:=by omega
    subst this;cases ax
   ·simp only[aV];exact⟨bN,a7,rfl⟩
  ·rename_i id off e n az;obtain⟨ax,h⟩:=z2 h;cases h;obtain⟨us,aK,a'⟩:=H.mC (λ_ h=>h) az;obtain⟨u,xs,bh,bW,rfl⟩:=a'.kj;have:=bW.nM;subst this;obtain⟨bN,a7,bn,rfl⟩:=bh.ve;have eu:jW (dr F) args.toList=some [_]:=aK;simp only[cK,eu];refine⟨λc2=>?_,k _ (.val ?_)⟩
   ·have:n=0:=by omega
    subst this;cases ax
   ·simp only[aV];exact⟨bN,a7,rfl⟩
  ·cases h
 ·cases h
def alq(aL:cU X.P X.E){op:Op}{v:aq}(h:QD X.P X.E G m.t op an=some v)(H:jf D F an op.operands.toList)(hm:dc (dV X G pr) D m I M)(k:∀ x,gv D x v->V x):cK X op (dr F) C I M V O:=by
 unfold QD at h;split at h
 ·
  exact k _ (H _ co _ h)
 ·exact k _ (H _ co _ h)
 ·
  rename_i c a b;unfold YE at h;split at h
  ·rename_i q u w aa ad aj;cases h;have ao:=H c co _ aa;have a7:=H a co _ ad;have ag:=H b co _ aj;simp only[cK];rcases ao with⟨axe,LK,ao⟩ | ⟨f',c2,LK⟩
   ·rw[ao.bool]at LK;simp only[LK];obtain⟨Rf,P4,alr⟩:=a7.dz;obtain⟨Rg,La,c0⟩:=ag.dz;have als:dz (dr F) a=.val Rf:=P4;have alt:dz (dr F) b=.val Rg:=La;rw[als,alt];refine k _ (.inl ⟨bif q then Rf else Rg,?_,?_⟩)
    ·exact aln q Rf Rg
    ·cases q
     ·exact c0
     ·exact alr
   ·cases c2;simp only[LK];cases q
    ·exact k _ ag
    ·exact k _ a7
  ·cases h
 ·
  rename_i axf t x;unfold YF at h;split at h
  ·rename_i b aa;cases h;have ab:=H x co _ aa;simp only[cK];rcases ab with⟨u,e,hu⟩ | ⟨q,aK,e⟩
   ·rw[hu.bool]at e;simp only[e];exact k _ (.val (by simp only[aV];rw[Rc]))
   ·cases aK;simp only[e];exact k _ (.inr ⟨!b,by rw[Rc],rfl⟩)
  ·rename_i gl n aa;cases h;have ab:=H x co _ aa;obtain⟨u,e,hu⟩:=ab.wP am;rw[hu.int]at e;simp only[cK,e];exact⟨_,rfl,k _ (.val (by simp only[aV];rw[z3]))⟩
  ·cases h
 ·
  rename_i axg t x y bi;unfold YG at h;obtain⟨a,aa,h⟩:=ct h;obtain⟨b,ad,h⟩:=ct h;obtain⟨u,aK,a'⟩:=H.bG (x:=x) co aa;obtain⟨w,ba,bh⟩:=H.bG (x:=y) co ad;have eu:dz (dr F) x=.val u:=aK;have q2:dz (dr F) y=.val w:=ba;simp only[cK,eu,q2];exact alg aL h a' bh λr af=>k _ (.val af)
 ·
  rename_i t x;unfold YH at h;obtain⟨i,hi,h⟩:=ct h;obtain⟨a,aa,h⟩:=ct h;have ab:=H x co _ aa;have yn:∀ q,a≠.b q:=λq e=>by subst e;cases h
  obtain⟨u,aK,a'⟩:=ab.wP yn;obtain⟨aR,l,vs,rfl,bo,az,aI⟩:=wQ hm a' h;simp only[cK,hi,aK];exact⟨vs,bo,k _ (.val (LB aI az))⟩
 ·
  rename_i x;unfold YI at h;split at h;·rename_i id off aa;cases h;obtain⟨u,aK,a'⟩:=(H x co _ aa).wP am;obtain⟨a,a7,rfl⟩:=a'.ptr;simp only[cK,aK];exact k _ (.val a')
  ·rename_i id off aa;cases h;obtain⟨u,aK,a'⟩:=(H x co _ aa).wP am;have:=a'.qD;subst this;simp only[cK,aK];exact k _ (.val a')
  ·cases h
 ·
  rename_i t x i;unfold YJ at h;obtain⟨r,af,h⟩:=ct h;obtain⟨a,aa,h⟩:=ct h;obtain⟨off,iw⟩:=r;obtain⟨bg,h⟩:=z2 h;obtain⟨sa,sQ,sz,et,fA,au,aE,tH⟩:=ZG af;have ab:=H x co _ aa;have yn:∀ q,a≠.b q:=λq e=>by subst e;cases h
  obtain⟨u,aK,a'⟩:=ab.wP yn;obtain⟨aR,rfl,av,ak⟩:=ZE h a';have gL:Nat.beq iw.size 0=false:=bg;simp only[cK,au,aE,tH,aK,gL,cD];exact k _ (.val ak)
 ·
  rename_i t x i;unfold YK at h;split at h;·rename_i off iw cs ax aa;obtain⟨sa,sQ,sz,et,fA,au,aE,tH⟩:=ZG ax;obtain⟨u,aK,a'⟩:=H.bG (x:=x) co aa;obtain⟨us,fI,rfl⟩:=a'.agg;obtain⟨ad,aj⟩:=ZF h fI;have eu:dz (dr F) x=.val (.agg us.toArray):=aK;simp only[cK,au,eu,aE,tH];rw[show Nat.ble (off+iw.size) us.toArray.size=true from Eb wf];exact k _ (.val aj)
  ·cases h
 ·
  rename_i t x i;unfold YL at h;obtain⟨r,af,h⟩:=ct h;obtain⟨a,aa,h⟩:=ct h;obtain⟨b,ad,h⟩:=ct h;obtain⟨j,ah,h⟩:=ct h;obtain⟨gl,rfl⟩:=ER ah;obtain⟨u,ba,bh⟩:=H.bG (x:=i) co ad;rw[bh.int]at ba;have q2:dz (dr F) i=.val (.int gl (.ofNat j)):=ba;obtain⟨HW,aB⟩:=r;rcases alj af with⟨sa,sQ,sz,e,au,he,rfl⟩ | ⟨sa,sQ,sz,n,e,au,he,rfl⟩;·have bd:Lg a j aB.size=some v:=h;obtain⟨w,aK,a'⟩:=H.bG (x:=x) co aa;obtain⟨aR,n,c,rfl,a1,ak⟩:=ali bd a';have eu:dz (dr F) x=.val (.slice (some aR) n c):=aK;simp only[cK,au,q2,he,eu];exact⟨aR,j,rfl,rfl,a1,k _ (.val ak)⟩
  ·have bd:bX (Nat.blt j n) (HB a (Nat.mul j aB.size)) none=some v:=h;obtain⟨ag,bd⟩:=fV bd;have ab:=H x co _ aa;have yn:∀ q,a≠.b q:=λq e=>by subst e;cases bd
   obtain⟨w,aK,a'⟩:=ab.wP yn;obtain⟨aR,rfl,av,ak⟩:=ZE bd a';simp only[cK,au,q2,he,aK];exact⟨j,rfl,bJ ag,k _ (.val ak)⟩
 ·
  rename_i t x i;cases aa:dq an x with
  |none=>rw[aa]at h;unfold HC at h;split at h<;>first | cases h | (rename_i e _;cases e)
  |some a=>
   cases ad:dq an i with
   |none=>rw[ad]at h;unfold HC at h;split at h<;>first | cases h | (rename_i e;cases e)
   |some b=>rw[aa,ad]at h;obtain⟨u,aK,a'⟩:=H.bG (x:=x) co aa;obtain⟨w,ba,bh⟩:=H.bG (x:=i) co ad;exact alk h a' bh aK ba k
 ·
  rename_i t parts;unfold YN at h;split at h
  ·rename_i i vs au aI;obtain⟨z,bg,h⟩:=ct h;have gL:=bO.EJ (D:=D) bg;obtain⟨us,aK,a'⟩:=H.parts (l:=parts.toList) (by intro y aG;simpa[Op.operands]using aG) aI;have eu:s9 (dr F) parts.toList=some us:=aK
   try simp only at h
   split at h;·rename_i et ox;obtain⟨rr,h⟩:=fV h;unfold HD at h;obtain⟨cs,aj,aJ⟩:=ct h;have dT:some (aq.a cs)=some v:=aJ;cases dT;obtain⟨bb,bD,cG⟩:=LC aj gL a';simp only[cK,au,eu,ox,rr,cF,bD];exact k _ (.val (.Lz cG))
   ·rename_i n e ox;obtain⟨aB,he,h⟩:=ct h;have bd:HD (zZ (λj=>some (j*aB.size,aB.size)) z vs)=some v:=h;unfold HD at bd;obtain⟨cs,aj,aJ⟩:=ct bd;have dT:some (aq.a cs)=some v:=aJ;cases dT;obtain⟨bb,bD,cG⟩:=LC aj gL a';simp only[cK,au,eu,ox,he,bD];exact k _ (.val (.Lz cG))
   ·cases h
  ·cases h
 ·
  rename_i f first captured
  unfold YO at h;split at h
  ·rename_i g et cs aa ad;cases h;obtain⟨us,aK,a'⟩:=H.mC (l:=first.toList) (by intro y aG;simp[Op.operands];exact .inl (by simpa using aG)) aa;obtain⟨ws,ba,bh⟩:=H.mC (l:=captured.toList) (by intro y aG;simp[Op.operands];exact .inr (by simpa using aG)) ad;have eu:jW (dr F) first.toList=some us:=aK
   have q2:jW (dr F) captured.toList=some ws:=ba;simp only[cK,eu,q2];exact k _ (.val (by simp only[aV];exact⟨us,ws,a',bh,rfl⟩))
  ·cases h
 ·
  rename_i t x lo hi;cases aa:dq an x with
  |none=>rw[aa]at h;unfold HE at h;split at h<;>first | cases h | (rename_i e _ _;cases e)
  |some a=>
   rw[aa]at h;cases ad:Cf (lo.map (dq an))with
   |none=>rw[ad]at h;unfold HE at h;split at h<;>first | cases h | (rename_i e _;cases e)
   |some l=>
    rw[ad]at h;cases aj:Cf (hi.map (dq an))with
    |none=>rw[aj]at h;unfold HE at h;split at h<;>first | cases h | (rename_i e;cases e)
    |some dg=>
     rw[aj]at h;obtain⟨u,aK,a'⟩:=H.bG (x:=x) co aa;have eu:dz (dr F) x=.val u:=aK;have fg:=ZH H (λy aG=>by subst aG;simp[Op.operands]) ad;have gB:=ZH H (λy aG=>by subst aG;simp[Op.operands]) aj;unfold HE at h;split at h
     ·rename_i sa sQ sz e l' Aa cz au cA ee ny;cases cA;cases ee;cases ny;obtain⟨aB,he,h⟩:=ct h;have bd:QA aB a l dg=some v:=h;unfold QA at bd;split at bd
      ·have el:lo.map (dz (dr F))=none:=by
        rcases fg with⟨el,_⟩ | ⟨_,_,_,el⟩;·exact el
        ·cases el
       have oX:hi.map (dz (dr F))=none:=by
        rcases gB with⟨oX,_⟩ | ⟨_,_,_,oX⟩;·exact oX
        ·cases oX
       have gY:∃ q n c,u=.slice q n c/\aV D v u:=by
        split at bd;·cases bd;exact⟨_,_,_,a'.Cm,a'⟩
        ·cases bd;obtain⟨q,_,rfl⟩:=a'.sP;exact⟨_,_,_,rfl,a'⟩
        ·cases bd;obtain⟨q,_,_,rfl⟩:=a'.ve;exact⟨_,_,_,rfl,a'⟩
        ·cases bd;obtain⟨q,c,rfl⟩:=a'.Ly;exact⟨_,_,_,rfl,a'⟩
        ·cases bd
       obtain⟨q,n,c,rfl,ak⟩:=gY;simp only[cK,au,eu,he,el,oX,uw];exact k _ (.val ak)
      ·obtain⟨q,n,c,rfl,fP,fr,kK,ak⟩:=alm bd a';simp only[cK,au,eu,he,uw];rcases fg with⟨el,rfl⟩ | ⟨ft,HX,el,rfl⟩<;>rcases gB with⟨oX,rfl⟩ | ⟨alu,HY,oX,rfl⟩<;>simp only[el,oX]
       ·rename_i bz;exact(bz rfl rfl).elim
       ·simp only[uv,lF]at fP fr ak;refine⟨0,HY,rfl,rfl,dQ _,fr,k _ (.val ?_)⟩;simp only[zj,DT]at ak;have eB:(if c=0 then q else q.map λx=>x.add 0)=q:=by
         split;·rfl
         ·cases q with
          |none=>rfl| some q=>simp[Addr.add]
        rw[eB]at ak;exact ak
       ·simp only[uv,lF]at fP fr ak;exact⟨HX,n,rfl,rfl,fP,cc _,k _ (.val ak)⟩
       ·simp only[uv,lF]at fP fr ak;exact⟨HX,HY,rfl,rfl,fP,fr,k _ (.val ak)⟩
     ·rename_i sa sQ sz str Aa cz au cA ee ny;cases cA;cases ee;cases ny;rw[a'.str]at eu;have bd:QB str l dg=some v:=h;unfold QB at bd;split at bd
      ·have el:lo.map (dz (dr F))=none:=by
        rcases fg with⟨el,_⟩ | ⟨_,_,_,el⟩;·exact el
        ·cases el
       have oX:hi.map (dz (dr F))=none:=by
        rcases gB with⟨oX,_⟩ | ⟨_,_,_,oX⟩;·exact oX
        ·cases oX
       cases bd;simp only[cK,au,eu,el,oX];exact k _ (.val io)
      ·obtain⟨ag,bd⟩:=fV bd;cases bd;rw[cC]at ag;have b1:=bJ ag.1;have bH:=bJ ag.2;have dk:(⟨str.toArray⟩:ByteArray).size=str.length:=by simp[ByteArray.size]
       simp only[cK,au,eu];rcases fg with⟨el,rfl⟩ | ⟨ft,HX,el,rfl⟩<;>rcases gB with⟨oX,rfl⟩ | ⟨alu,HY,oX,rfl⟩<;>simp only[el,oX]
       ·rename_i bz;exact(bz rfl rfl).elim
       ·simp only[uv,lF]at b1 bH;exact⟨0,HY,rfl,rfl,dQ _,by rw[dk];exact bH,k _ (.val (by simp only[aV,uv,lF,Re]))⟩
       ·simp only[uv,lF]at b1 bH;exact⟨HX,str.length,rfl,by rw[dk];rfl,b1,by rw[dk];exact cc _,k _ (.val (by simp only[aV,uv,lF,Re,dk]))⟩
       ·simp only[uv,lF]at b1 bH;exact⟨HX,HY,rfl,rfl,b1,by rw[dk];exact bH,k _ (.val (by simp only[aV,uv,lF,Re]))⟩
     ·cases h
 ·
  rename_i x i;unfold YP at h;split at h;·rename_i vs aa;obtain⟨u,aK,a'⟩:=H.bG (x:=x) co aa;obtain⟨us,fI,rfl⟩:=a'.Q5;rw[z5]at h;obtain⟨w,hw,ak⟩:=fI.get h;have eu:dz (dr F) x=.val (.tuple us.toArray):=aK;simp only[cK,eu,hw];exact k _ (.val ak)
  ·cases h
 ·
  rename_i s d x;unfold YQ at h;split at h;·rename_i gl eQ n av ai aa;cases h;obtain⟨u,aK,a'⟩:=H.bG (x:=x) co aa;rw[a'.int]at aK;have eu:dz (dr F) x=.val (.int eQ n):=aK;simp only[cK,av,ai,eu];exact⟨_,rfl,k _ (.val (by simp only[aV];rw[z3]))⟩
  ·cases h
 ·
  rename_i b args fb;exact alp aL h (by simpa[Op.operands,Call.operands]using H) k
 ·cases h
end
def bR.set(D:bR)(id:Nat)(a:Loc):bR:=λi=>if i=id then some a else D i
def bR.pS(D:bR)(id:Nat)(a:Loc):(D.set id a) id=some a:=by simp[bR.set]
def bR.le_refl(D:bR):D.le D:=λ_ _ h=>h
def bR.le_trans(h:D.le bF)(k:bF.le LG):D.le LG:=λi a e=>k _ _ (h _ _ e)
def bR.Ab{id:Nat}(a:Loc)(h:D id=none):D.le (D.set id a):=λi b ag=>by
 unfold bR.set;split
 ·rename_i e;subst e;rw[h]at ag;cases ag
 ·exact ag
def bR.ext(D bF:bR)(n:Nat):Prop:=∀ i,i<n->bF i=D i
def bR.oY{n:Nat}:D.ext D n:=λ_ _=>rfl
def bR.ES{n:Nat}{a:Loc}:D.ext (D.set n a) n:=λi hi=>by unfold bR.set;rw[bS Z]
section
variable{Y:gH}{D bF:bR}{m:bA}{I I':aH}{M M':List aA}{R:Type}
def HR.mono{G:GT}(h:HR G I)(bE:∀ b o,I b=some o->I' b=some o):HR G I':=λg cs aw=>by obtain⟨arr,T,f,aa,ad⟩:=h g cs aw;exact⟨arr,T,f,bE _ _ aa,ad⟩
def dc.le(h:dc Y D m I M)(dh:D.ext bF m.n):D.le bF:=λi a a7=>by rw[dh i (h.jL _ _ a7)];exact a7
def dc.step(h:dc Y D m I M){a:Loc}(au:∀ id e,bi.get id=some e->(id=j/\eB=e)\/(id≠j/\m.t.get id=some e))(ah:bF j=some a)(bn:D.le bF)(dh:∀ i,i≠j->bF i=D i)(alv:∀ id a,bF id=some a->id<hM)(bE:∀ b o,I b=some o->I' b=some o)(v9:∀ id e bN,id≠j->m.t.get id=some e->D id=some bN->∀ x∈M,x.num=bN.b->x∈M')
  (he:lp bF Y.E M' a eB) (BU:∀ id e bN,id≠j->m.t.get id=some e->D id=some bN->bN.b≠a.b):dc Y bF ⟨bi,hM⟩ I' M' where
 iL id e cP aw aa:=by
  rcases au id e aw with⟨aK,ba⟩ | ⟨bz,aw⟩;·subst aK;subst ba;rw[ah]at aa;cases aa;exact he
  ·rw[dh id bz]at aa;exact(h.iL id e cP aw aa).mono bn λx ab aC=>v9 id e cP bz aw aa x ab aC
 inj id iM e c2 cP ek aw jB aa ad ag:=by
  rcases au id e aw with⟨aK,ba⟩ | ⟨bz,aw⟩
  ·rcases au iM c2 jB with⟨cA,ee⟩ | ⟨A6,jB⟩
   ·rw[aK,cA]
   ·rw[dh iM A6]at ad;subst aK;rw[ah]at aa;cases aa;exact(BU iM c2 ek A6 jB ad ag.symm).elim
  ·rw[dh id bz]at aa;rcases au iM c2 jB with⟨cA,ee⟩ | ⟨A6,jB⟩
   ·subst cA;rw[ah]at ad;cases ad;exact(BU id e cP bz aw aa ag).elim
   ·rw[dh iM A6]at ad;exact h.inj id iM e c2 cP ek aw jB aa ad ag
 jL:=alv
 qD:=h.qD.mono bE
def dc.fresh(h:dc Y D m I M):D m.n=none:=by
 cases dh:D m.n with
 |none=>rfl| some a=>exact absurd (h.jL _ _ dh) (Nat.lt_irrefl _)
def dc.ar(h:dc Y D m I M){id:Nat}{e:fF}{a:Loc}(aw:m.t.get id=some e)(a7:D id=some a):∃ x∈M,x.num=a.b:=by
 cases h.iL id e a aw a7 with
 |cells arr ax aa=>exact⟨_,aa,rfl⟩| map l c aa=>exact⟨_,aa,rfl⟩| loop L aa=>exact⟨_,aa,rfl⟩| done L aa=>exact⟨_,aa,rfl⟩
def dc.new(h:dc Y D m I M){a:Loc}{o:Obj}(au:∀ id e,bi.get id=some e->(id=m.n/\some eB=some e)\/(id≠m.n/\m.t.get id=some e))(aE:∀ x∈M,x.num≠a.b)
  (he:lp (D.set m.n a) Y.E (⟨a.b,o⟩::M) a eB):dc Y (D.set m.n a) ⟨bi,m.n+1⟩ I (⟨a.b,o⟩::M):=
 h.step (λid e aw=>(au id e aw).imp (λh=>⟨h.1,oW h.2⟩) λh=>h) (D.pS _ _) (bR.Ab a h.fresh) (λi hi=>by unfold bR.set;rw[bS hi])
  (λid b ag=>by
   unfold bR.set at ag;split at ag;·omega
   ·have:=h.jL _ _ ag;omega)
  (λ_ _ h=>h) (λ_ _ _ _ _ _ x ab _=>nO _ ab) he
  (λid e bN _ aw sM ag=>by
   obtain⟨x,ab,aC⟩:=h.ar aw sM;exact aE x ab (aC.trans ag))
def lp.new{l:List aq}{vs aS:List Value}{T c:Nat}{b:Nat}{cs:bk aq}(lM:∀ j x,cs.get j=some x->(0<=j/\l[j-0]?=some x)\/((j<0\/0+l.length<=j)/\(bk.nil:bk aq).get j=some x))(az:bO D l vs)
  (ae:∀ i,Y.E T=some i->(vs++aS).length=c*i.size) (ao:c<=maxLen):lp D Y.E (⟨b,.cells (vs++aS).toArray T (0,0)⟩::M) ⟨b,0,c⟩ (.cells cs T l.length):=by
 refine .cells (vs++aS).toArray rfl am (by simp[az.len]) (λi v hi aw=>?_) (λi hi=>by simpa using ae i hi) ao;rcases lM i v aw with⟨_,aa⟩ | ⟨_,aa⟩
 ·obtain⟨x,ad,aj⟩:=az.get (i:=i) rx;have a1:=(iP.1 ad).1;exact⟨x,by simp only[dn,A0];rw[sr a1];exact ad,aj⟩
 ·cases aa
def HZ{e:fF}{K:Nat->bA->Option R}{r:R}(h:Cg m e K=some r):∃ bi,(∀ id c2,bi.get id=some c2->(id=m.n/\some e=some c2)\/(id≠m.n/\m.t.get id=some c2))/\K m.n ⟨bi,m.n+1⟩=some r:=by unfold Cg at h;rw[Q2]at h;obtain⟨bi,aa,ad⟩:=bk.oR (some e) m.t m.n;rw[aa]at h;exact⟨bi,ad,h⟩
def Rh{l:List aq}{T:Nat}{K:Nat->bA->Option R}{r:R}(h:vc m l T K=some r):∃ m',K m.n m'=some r/\m'.n=m.n+1 /\
  ∀ {D:bR} {I:aH} {M:List aA} {vs:List Value} (aS:List Value) {b c:Nat},dc Y D m I M->(∀ x∈M,x.num≠b)->bO D l vs->(∀ i,Y.E T=some i->(vs++aS).length=c*i.size)->c<=maxLen ->
   dc Y (D.set m.n ⟨b,0,c⟩) m' I (⟨b,.cells (vs++aS).toArray T (0,0)⟩::M):=by
 unfold vc at h;obtain⟨cs,aa,ad⟩:=bk.ym l (.nil:bk aq) 0;rw[aa]at h;obtain⟨bi,aj,aJ⟩:=HZ h;refine⟨_,aJ,rfl,fun {D I M vs} aS {b c} hm aE az ae ao=>?_⟩;exact hm.new (a:=⟨b,0,c⟩) aj aE (.new ad (az.mono (bR.Ab _ hm.fresh)) ae ao)
end
def alw(z:List Value)(n:Nat):rowOf z (z.length+n)=rowOf z z.length++rowOf z n:=by unfold rowOf;rw[List.range_add,cR,gj];congr 1;apply fR;intro i _;simp[Nat.add_mod_left]
def alx(z:List Value):rowOf z z.length=z:=by
 unfold rowOf;apply oA
 ·simp
 ·intro i aa ad;simp only[gh,wy,Ee ad];simp[ad]
def Ri(z:List Value):∀ n,rowOf z (n*z.length)=(List.replicate n z).flatten
 |0=>by simp[rowOf]
 |n+1=>by rw[JM,JL,alw,alx,Ri z n,O9,O']
def ZI(place:Nat->Option (Nat×Nat)):∀ (vs:List (Nat×Value)) (cs r:List Value),qY place cs vs=some r->r.length=cs.length
 |[],cs,r,h=>by simp only[qY]at h;cases h;rfl
 |(i,v)::vs,cs,r,h=>by
  simp only[qY]at h;split at h;·cases h
  ·rename_i off size aI;cases ag:(Nat.beq v.cells.size size&&Nat.ble (off+size) cs.length)with
   |false=>rw[ag]at h;cases h| true=>rw[ag]at h;simp only[cF]at h;rw[ZI place vs _ _ h];rw[cC]at ag;have aa:=ea ag.1;have ad:=bJ ag.2;simp[cd];omega
def Ac(dst:Option Nat)(u:Value)(F c7:Fr):Prop:=(∀ d,dst=some d->c7 d=.val u)/\∀ (D:bR) t v,dst≠some t->gv D (F t) v->gv D (c7 t) v
def Ac.put(dst:Option Nat)(u:Value)(F:Fr):Ac dst u F (put dst (.val u) F):=by
 constructor
 ·rintro d rfl;simp[Go.V.put,gS]
 ·intro D t v bz h;cases dst with
  |none=>exact h| some d=>have:t≠d:=λe=>bz (by rw[e]);simp only[Go.V.put,gS,hF this,cD];exact h
def Ac.qa(d:Nat)(u:Value)(F:Fr):Ac (some d) u F (gS (qa F d) d (.val u)):=by
 constructor
 ·rintro _⟨⟩;simp[gS]
 ·intro D t v bz h;have:t≠d:=λe=>bz (by rw[e]);simp only[gS,hF this,cD];unfold Go.V.qa;rcases h with⟨aly,e,h⟩ | ⟨q,e,h⟩
  ·rw[e];exact .inl ⟨aly,rfl,h⟩
  ·rw[h];exact .inr ⟨q,e,rfl⟩
section
variable{X:cN}{G:GT}{pr:lV}{D:bR}{m:bA}{F:Fr}{an:bk aq}{C:de}{I:aH}{M:List aA}{K:fz}{o:Oper}
def ZJ(aL:cU X.P X.E)(kc:∀ d,d<X.n->X.gC.contains d=true)(ai:∀ d,o.dst=some d->d<X.n){l:List aq}{T c:Nat}{mk:Nat->aq}(h:Ci X.E o an=some (l,T,c,mk))(H0:o.dst.isSome=true)(H:jf D F an o.op.operands.toList)
  (k:∀ b vs u c7 C',I b=none->(∀ x∈M,x.num≠b)->bO D l vs->(∀ i,X.E T=some i->vs.length=c*i.size)->c<=maxLen->(∀ (bF:bR) id,bF id=some ⟨b,0,c⟩->aV bF (mk id) u)->Ac o.dst u F c7 ->
   K c7 C' I (⟨b,.cells vs.toArray T (0,0)⟩::M)):gb X o F C I M K:=by
 obtain⟨dst,op,ty,pos,after,guard⟩:=o;cases dst with
 |none=>cases H0
 |some d=>
  have wc:X.gC.contains d=true:=kc d (ai d rfl);have ZK:∀ (b c:Nat) (bF:bR) id,bF id=some ⟨b,0,c⟩->aV bF (.p id 0) (.pointer (some ⟨b,0,none⟩)):=λb c bF id j5=>by simp only[aV];exact⟨_,j5,rfl⟩
  unfold Ci at h;simp only at h H;split at h
  ·rename_i t x;unfold YY at h;obtain⟨i,hi,h⟩:=ct h;obtain⟨v,ak,h⟩:=ct h;obtain⟨ag,h⟩:=fV h;cases h;obtain⟨u,aK,a'⟩:=H.bG (x:=x) co ak;have ao:=a'.cells;simp only[gb,aK,wc,cF];refine⟨λb aa ad=>?_⟩;have:=k b u.cells.toList (.pointer (some ⟨b,0,none⟩)) _ (jl C d none) aa ad ao (λgQ cz=>?_) bv (ZK b 1) (.qa d _ F)
   ·simpa using this
   ·rw[hi]at cz;cases cz;rw[ao.len,nt];exact ea ag
  ·rename_i t;unfold YZ at h;obtain⟨i,hi,h⟩:=ct h;obtain⟨z,bg,h⟩:=ct h;cases h;simp only[gb,hi,wc,cF];refine⟨λb aa ad=>?_⟩;exact k b i.zero (.pointer (some ⟨b,0,none⟩)) _ (jl C d none) aa ad (.EJ bg) (λgQ cz=>by rw[hi]at cz;cases cz;rw[(aL _ _ hi).len,nt]) bv (ZK b 1) (.qa d _ F)
  ·rename_i t len parts;unfold Y0 at h;split at h
   ·rename_i sa sQ sz e vs au aI;obtain⟨aB,he,h⟩:=ct h;obtain⟨z,bg,h⟩:=ct h;obtain⟨us,aK,a'⟩:=H.parts (l:=parts.toList) (by intro y aG;simpa[Op.operands]using aG) aI;simp only[gb,au,aK,he];have xR:=(aL _ _ he).len;cases ag:(Nat.ble (len*aB.size) 16777216&&Nat.blt 0 (len*aB.size))with
    |true=>
     have ha:(Nat.ble (Nat.mul len aB.size) 16777216&&Nat.blt 0 (Nat.mul len aB.size))=true:=ag;rw[ki,ha]at h;simp only[cF]at h |-;obtain⟨cs,aj,aJ⟩:=ct h;have dT:some (cs,e,len,λid=>aq.sl id 0 len len)=some (l,T,c,mk):=aJ;cases dT;have Rj:bO D (Ch c z) (rowOf aB.zero (c*aB.size)):=by rw[<-xR,Ri];exact(bO.EJ bg).GW c
     obtain⟨bb,bD,cG⟩:=LC aj Rj a';rw[bD];refine⟨λb aa ad=>?_⟩;have cQ:bb.length=c*aB.size:=by rw[ZI _ _ _ _ bD];simp[rowOf]
     rw[cC]at ag;have ia:=bJ ag.1;have il:0<c*aB.size:=bJ ag.2;exact k b bb (.slice (some ⟨b,0,none⟩) c c) _ C aa ad cG (λgQ cz=>by rw[he]at cz;cases cz;exact cQ)
      (by
       have eZ:0<aB.size:=Nat.pos_of_mul_pos_left il;have:c<=c*aB.size:=Nat.le_mul_of_pos_right _ eZ;simp only[maxLen];omega)
      (λbF id j5=>LE) (.put _ _ F)
    |false=>
     have ha:(Nat.ble (Nat.mul len aB.size) 16777216&&Nat.blt 0 (Nat.mul len aB.size))=false:=ag;rw[ki,ha]at h;simp only[cD]at h |-;obtain⟨ao,h⟩:=fV h;cases h;rw[cC]at ao;have aj:=ea ao.1;subst aj;have aJ:vs=[]:=by simpa using ao.2
     subst aJ;cases a';simp only;refine⟨λb aa ad=>?_⟩;exact k b [] (.slice (some ⟨b,0,none⟩) 0 0) _ C aa ad .nil (λgQ cz=>am) bv (λbF id j5=>LE) (.put _ _ F)
   ·cases h
  ·rename_i t eF c';unfold Y1 at h;split at h
   ·rename_i sa sQ sz e hb axh au aa ad;obtain⟨aB,he,h⟩:=ct h;obtain⟨n,aC,h⟩:=ct h;obtain⟨q,aO,h⟩:=ct h;obtain⟨z,bg,h⟩:=ct h;obtain⟨ag,h⟩:=fV h;cases h;obtain⟨eQ,rfl⟩:=ER aC;obtain⟨cZ,rfl⟩:=ER aO;obtain⟨Cp,aK,a'⟩:=H.bG (x:=eF) co aa;obtain⟨vi,ba,bh⟩:=H.bG (x:=c') co ad;rw[a'.int]at aK;rw[bh.int]at ba;simp only[cC]at ag;simp only[gb,au,aK,ba,he];refine⟨n,c,rfl,rfl,bJ ag.1,bJ ag.2.1,bJ ag.2.2,⟨λb aj aJ=>?_⟩⟩;have xR:=(aL _ _ he).len;have Rj:bO D (Ch c z) (rowOf aB.zero (c*aB.size)):=by rw[<-xR,Ri];exact(bO.EJ bg).GW c
    exact k b _ (.slice (some ⟨b,0,none⟩) n c) _ C aj aJ Rj (λgQ cz=>by rw[he]at cz;cases cz;simp[rowOf]) (bJ ag.2.2) (λbF id j5=>LE) (.put _ _ F)
   ·cases h
  ·cases h
end
def ZL{vs:List Value}{i:Nat}(h:off+vs.length<=cs.length):(cd cs off vs)[i]?=if off<=i/\i<off+vs.length then vs[i-off]? else cs[i]?:=by
 unfold cd;by_cases aa:i<off
 ·rw[bS Z,sr d4,sr d4,l5,b2 aa]
 ·by_cases ad:i<off+vs.length
  ·rw[b2 ⟨Z,ad⟩,sr d4,lO d4];simp;congr 1;omega
  ·rw[bS Z,lO d4,oq];congr 1;simp;omega
def Rk{vs:List Value}(h:off+vs.length<=cs.length):(cd cs off vs).length=cs.length:=by simp[cd];omega
section
variable{Y:gH}{D:bR}{m:bA}{I:aH}{M:List aA}{R:Type}
def Rl{x:aq}{l:List aq}{K:bA->Option R}{r:R}(h:yj m x l K=some r):∃ m',K m'=some r/\m'.n=m.n/\(∀ id,m'.t.get id≠none->m.t.get id≠none\/True) /\
  ∀ {D:bR} {I:aH} {M:List aA} {u:Value} {vs:List Value},dc Y D m I M->aV D x u->bO D l vs ->
   ∃ (g off:Nat) (a9 post:List aA) (arr:Array Value) (T:Nat),u=.pointer (some ⟨g,off,none⟩)/\M=a9++⟨g,.cells arr T (0,0)⟩::post/\off+vs.length<=arr.size/\fH vs=true /\ (∃ id e a,m.t.get id=some e/\D id=some a/\a.b=g) /\
    dc Y D m' I (a9++⟨g,.cells (cd arr.toList off vs).toArray T (0,0)⟩::post):=by
 unfold yj at h;split at h
 ·rename_i id off;split at h
  ·rename_i cs T fK aw;cases ag:(Nat.ble (Nat.add off l.length) fK&&l.all aq.one)with
   |false=>rw[ag]at h;cases h
   |true=>
    rw[ag]at h;simp only[cF]at h;rw[cC]at ag;have Ad:off+l.length<=fK:=bJ ag.1;obtain⟨cs',aa,ad⟩:=bk.ym l cs off;rw[aa]at h;obtain⟨bi,aj,aJ⟩:=bk.oR (some (fF.cells cs' T fK)) m.t id;rw[aj]at h;refine⟨_,h,rfl,λ_ _=>.inr trivial,fun {D I M u vs} hm ab az=>?_⟩;obtain⟨a,a7,rfl⟩:=ab.ptr;have he:=hm.iL _ _ _ aw a7;obtain⟨arr,aD,bc,dk,ao,ae,ih⟩:=he;have cQ:=az.len;obtain⟨a9,post,di⟩:=vf bc;have ib:off+vs.length<=arr.size:=by omega
    refine⟨a.b,off,a9,post,arr,T,by rw[aD,dn],di,ib,az.one ag.2,⟨id,_,a,aw,a7,rfl⟩,?_⟩;have e6:∀ x∈M,x.num≠a.b->x∈a9++⟨a.b,.cells (cd arr.toList off vs).toArray T (0,0)⟩::post:=λx ab aC=>by
     rw[di]at ab;rcases c1.1 ab with ab | ab;·exact c1.2 (.inl ab)
     ·rcases er.1 ab with rfl | ab
      ·exact(aC rfl).elim
      ·exact c1.2 (.inr (nO _ ab))
    refine hm.step (λi e hi=>(aJ i e hi).imp (λq=>⟨q.1,oW q.2⟩) λq=>q) a7 (bR.le_refl D) (λ_ _=>rfl) hm.jL (λ_ _ h=>h) (λi e bN bz hi qH x ab aC=>e6 x ab ?_) ?_ ?_;·rw[aC];exact λag=>bz (hm.inj _ _ _ _ _ _ hi aw qH a7 ag)
    ·have Ae:(cd arr.toList off vs).length=arr.size:=by rw[Rk wt];simp
     refine .cells (cd arr.toList off vs).toArray aD am (by simp[Ae];exact dk) (λi v hi vj=>?_) (λi hi=>by simp[Ae];exact ae i hi) ih;rw[aD,dn];simp only[A0];rw[ZL wt];rcases ad i v vj with⟨a',bh⟩ | ⟨a',bh⟩;·have a1:=(iP.1 bh).1;rw[b2 ⟨a',Z⟩];exact az.get bh
     ·rw[bS Z];have:=ao i v hi bh;rw[aD,dn]at this;simpa using this
    ·intro i e bN bz hi qH ag;exact bz (hm.inj _ _ _ _ _ _ hi aw qH a7 ag)
  ·cases h
 ·cases h
def ZM:∀ {l:List aq} {a5 ch:List UInt8} {vs:List Value},HG l a5=some ch->bO D l vs->∃ cs,ch=a5.reverse++cs/\vs=cs.map (λb=>.int .u8 b.toNat)
 |[],a5,ch,vs,h,az=>by simp only[HG]at h;cases h;exact⟨[],(dK _).symm,az.nM⟩
 |v::l,a5,ch,vs,h,az=>by
  unfold HG at h;split at h;·rename_i e;cases e
  ·rename_i Eg n eF e;cases e;cases ag:Nat.ble n 255 with
   |false=>rw[ag]at h;cases h| true=>rw[ag]at h;simp only[cF]at h;obtain⟨x,xs,aa,ad,rfl⟩:=az.kj;have aC:=bJ ag;obtain⟨cs,rfl,rfl⟩:=ZM h ad;refine⟨UInt8.ofNat n::cs,am,?_⟩;rw[aa.int];simp only[b0,zA,and_true,Value.int.injEq,true_and];rw[UInt8.toNat_ofNat_of_lt' (show n<256 by omega)];rfl
  ·cases h
def ZN{l:List aq}{ch:List UInt8}{vs:List Value}(h:QK l=some ch)(az:bO D l vs):vs=ch.map (λb=>.int .u8 b.toNat):=by obtain⟨cs,rfl,rfl⟩:=ZM h az;rfl
inductive Af:TypeDesc->aq->Prop
 |int{k n}:Af (.int k) (.i k n)| str {l}:Af .string (.s l)
theorem ZO(aL:cU P E){k:Nat}{y:aq}(h:Lm (E k) y=true):∃ d,P.underlying k=some d/\Af d y:=by
 unfold Lm at h;split at h
 ·rename_i gl e4 n ae;have:=IntKind.Dj h;subst this;obtain⟨d,hu,ai⟩:=(aL _ _ ae).fp;refine⟨d,hu,?_⟩;have:d=.int gl:=by cases d<;>simp_all[fo]
  subst this;exact .int
 ·rename_i l ae;obtain⟨d,hu,ai⟩:=(aL _ _ ae).fp;refine⟨d,hu,?_⟩;have:d=.string:=by cases d<;>simp_all[fo]
  subst this;exact .str
 ·cases h
def Af.isKey{d:TypeDesc}{y:aq}(h:Af d y)(aG:aV D y u):MapKept.IsKey d u:=by
 cases h with
 |int=>rw[aG.int];rfl| str=>rw[aG.str];trivial
def ZP(a b:ByteArray):(a == b)=decide (a=b):=by rw[r8,MapKept.bytes_beq];simp
def ET{d:TypeDesc}{y x:aq}{r:Bool}(h:Af d y)(aG:aV D y u)(ab:aV D x w)(he:Ew y x=some r):Instr.sameNow d u w=some r:=by
 cases h with
 | @int k n=>
  rw[aG.int];unfold Ew at he;split at he;·rename_i e;cases e
  ·rename_i eQ a cZ b e;cases e;obtain⟨aa,ad⟩:=fV he;have:=IntKind.Dj aa;subst this;cases ad;rw[ab.int];simp only[Instr.sameNow,s7,Cl];congr 1
  ·rename_i e;cases e
  ·cases he
 | @str l=>
  rw[aG.str];unfold Ew at he;split at he;·rename_i e;cases e
  ·rename_i e;cases e
  ·rename_i a b e;cases e;cases he;rw[ab.str];simp only[Instr.sameNow];rw[ZP,LD,EI]
  ·cases he
def ZQ{d:TypeDesc}{y:aq}{u:Value}(h:Af d y)(aG:aV D y u):∀ {es:List (aq×aq)} {l:List MapEntry} {r:Option aq} (i:Nat),qF D es l->HH y es=some r ->
  match r with
  |none=>Instr.findNow d u l i=some none| some v=>∃ j w,Instr.findNow d u l i=some (some (j,w))/\aV D v w
 |[],_,r,i,.nil,az=>by simp only[HH]at az;cases az;rfl
 |(x,v)::es,_,r,i,.cons (e:=e) (l:=l) ae ak t,az=>by
  simp only[HH]at az;split at az;·rename_i he;cases az;refine⟨i,e.val,?_,ak⟩;simp only[Instr.findNow,ET h aG ae he]
  ·rename_i he;have aQ:=ZQ h aG (i+1) t az;simp only[Instr.findNow,ET h aG ae he];exact aQ
  ·cases az
def ZR{d:TypeDesc}{y v:aq}{u w:Value}(h:Af d y)(aG:aV D y u)(ak:aV D v w):∀ {es vk:List (aq×aq)} {l:List MapEntry} (i:Nat),qF D es l->HI y v es=some vk -> (Instr.findNow d u l i=some none/\∀ b,qF D vk (l++[{ key:=u,val:=w,born:=b }])) \/ ∃ j e,Instr.findNow d u l i=some (some (i+j,e.val))/\l[j]?=some e/\Instr.sameNow d u e.key=some true/\qF D vk (l.modify j λe=>{ e with key:=u,val:=w })
 |[],vk,_,i,.nil,az=>by simp only[HI]at az;cases az;exact .inl ⟨rfl,λb=>.cons aG ak .nil⟩
 |(x,vh)::es,vk,_,i,.cons (e:=e) (l:=l) ae k2 t,az=>by
  simp only[HI]at az;split at az
  ·rename_i he;cases az;refine .inr ⟨0,e,?_,rfl,ET h aG ae he,?_⟩
   ·simp only[Instr.findNow,ET h aG ae he,pg]
   ·simp only[List.modify_zero_cons];exact .cons aG ak t
  ·rename_i he;split at az
   ·rename_i r af;cases az;rcases ZR h aG ak (i+1) t af with⟨aa,ad⟩ | ⟨j,c2,aa,ad,aj,aJ⟩
    ·refine .inl ⟨?_,λb=>.cons ae k2 (ad b)⟩;simp only[Instr.findNow,ET h aG ae he];exact aa
    ·refine .inr ⟨j+1,c2,?_,wf,aj,?_⟩
     ·simp only[Instr.findNow,ET h aG ae he];rw[aa];congr 3;omega
     ·simp only[List.modify_succ_cons];exact .cons ae k2 aJ
   ·cases az
  ·cases az
end
section
variable{P:Program}{w:World}
def alz{k:Nat}(au:P.underlying t=some (.map k e)){d:TypeDesc}(ae:P.underlying k=some d)(wU:MapKept.IsKey d u){l:List MapEntry}(aw:w.heap[g]?=some (.map l.toArray clock))
  {q:Option (Nat×Value)} (aE:Instr.findNow d u l 0=some q) {inf:TypeInfo} {z:Value} (hi:P.info? e=some inf) (bg:inf.zero=some z) (ok:Bool) :
  (Instr.lookup t (.map (some g)) u ok).run P w=.ok (bif ok then .tuple #[(q.map (·.2)).getD z,.bool q.isSome]else(q.map (·.2)).getD z) w:=by
 have ao:(Instr.checkKey l.toArray.isEmpty 10000 k u).run P w=.ok () w:=DQ ae wU _ 9999;have u4:(Instr.findKey k u l).run P w=.ok q w:=DR ae aE;have LL:(zeroValue e).run P w=.ok z w:=by simp[zeroValue,typeInfo,hi,bg]
 unfold Instr.lookup;simp only[cp,run_underlying au,bY,DP aw,db,ao,u4];cases q with
 |none=>cases ok<;>simp[LL]
 |some p=>cases ok<;>simp
def alA{k:Nat}(au:P.underlying t=some (.map k e)){d:TypeDesc}(ae:P.underlying k=some d){v:Value}(wU:MapKept.IsKey d u){l:List MapEntry}(aw:w.heap[g]?=some (.map l.toArray clock))
  (aE:Instr.findNow d u l 0=some none):(Instr.mapUpdate t (.map (some g)) u v).run P w=.ok () { w with heap:=w.heap.setIfInBounds g (.map (l++[({ key:=u,val:=v,born:=clock }:MapEntry)]).toArray (clock+1)) }:=by
 have ao:(Instr.checkKey false 10000 k u).run P w=.ok () w:=DQ ae wU _ 9999;have u4:(Instr.findKey k u l).run P w=.ok none w:=DR ae aE;unfold Instr.mapUpdate;simp only[cp,run_underlying au,bY,DP aw,ao,u4,O8 _ aw];congr 3;simp
def alB{k:Nat}(au:P.underlying t=some (.map k e)){d:TypeDesc}(ae:P.underlying k=some d){v:Value}(wU:MapKept.IsKey d u){l:List MapEntry}(aw:w.heap[g]?=some (.map l.toArray clock))
 {c2:MapEntry} (aE:Instr.findNow d u l 0=some (some (j,c2.val))) (ah:l[j]?=some c2) (av:c2.key=u) :
  (Instr.mapUpdate t (.map (some g)) u v).run P w=.ok () { w with heap:=w.heap.setIfInBounds g (.map (l.modify j λe=>{ e with key:=u,val:=v }).toArray clock) }:=by
 have ao:(Instr.checkKey false 10000 k u).run P w=.ok () w:=DQ ae wU _ 9999;have u4:(Instr.findKey k u l).run P w=.ok (some (j,c2.val)) w:=DR ae aE;have ff:(Instr.keyThatStays u u).run P w=.ok u w:=MapKept.run_keyThatStays wU;unfold Instr.mapUpdate;simp only[cp,run_underlying au,bY,DP aw,ao,u4];simp only[A0,ah,kW,lF,av,ff,bY,O8 _ aw];congr 3;show Obj.map _ _=Obj.map _ _;congr 1;apply lH;simp
end
section
variable{X:cN}{G:GT}{pr:lV}{D:bR}{m m':bA}{F:Fr}{an:bk aq}{C:de}{I:aH}{M:List aA}{K:fz}{o:Oper}{v:aq}
def rK(X:cN)(G:GT)(pr:lV)(D:bR)(m:bA)(I:aH)(M:List aA)(v:aq)(m':bA)(dst:Option Nat)(F:Fr)(C:de)(K:fz):Prop:=
 ∀ bF u M',D.ext bF m.n->aV bF v u->dc (dV X G pr) bF m' I M'->K (put dst (.val u) F) C I M'
def alC(aD:o.op=.store t x y)(h:bu o.dst (Lk (X.E t) m (dq an x) (dq an y)) (λ_=>none)=some (v,m'))(H:jf D F an o.op.operands.toList)(hm:dc (dV X G pr) D m I M)
  (k:rK X G pr D m I M v m' o.dst F C K):gb X o F C I M K:=by
 obtain⟨dst,op,ty,pos,after,guard⟩:=o;simp only at aD;subst aD;cases dst with
 |some d=>cases h
 |none=>
  have aa:Lk (X.E t) m (dq an x) (dq an y)=some (v,m'):=h;unfold Lk at aa;obtain⟨i,hi,aa⟩:=ct aa;obtain⟨a,ab,aa⟩:=ct aa;obtain⟨b,aG,aa⟩:=ct aa;obtain⟨ag,aa⟩:=fV aa;obtain⟨m2,ad,-,-,aj⟩:=Rl (Y:=dV X G pr) aa;cases ad;simp only at H;have oZ:=H x co _ ab;have yn:∀ q,a≠.b q:=λq e=>by subst e;cases aa
  obtain⟨u,aK,a'⟩:=oZ.wP yn;obtain⟨w,ba,bh⟩:=H.bG (x:=y) co aG;obtain⟨g,off,a9,post,arr,T,rfl,bc,ib,qd,⟨id,e,jc,j5,DX,aw⟩,mo⟩:=aj hm a' bh.cells;simp only[gb,hi,ba,aK];have dk:Nat.beq w.cells.size i.size=true:=by have:=bh.cells.len;rw[xJ]at this;rw[this];exact ag
  rw[dk];simp only[cF];refine⟨a9,post,arr,T,bc,rfl,ib,qd,?_⟩;exact k D (.tuple #[]) _ bR.oY (by simp only[aV];exact⟨[],.nil,rfl⟩) mo
def ZS(ai:∀ d,o.dst=some d->d<X.n)(b':∀ c,o.op≠.defer c)
  (h:∀ (β:Nat->Nat) (a:Act) (w:World),cM X β a w F C I M->∃ u w' I' M',(execOp a.eval o).run X.P w=.ok (.value u) w'/\cM X β a w' F C I' M'/\K (put o.dst (.val u) F) C I' M'):bC X o F C I M K:=by
 refine⟨λa w Q ⟨β,aM⟩=>?_⟩;obtain⟨u,w',I',M',aa,ad,aj⟩:=h β a w aM;exact ix b' aa ⟨_,_,_,_,⟨β,ad.put (x:=.val u) ai rfl⟩,aj⟩
def alD(ai:o.dst=none)(b':∀ c,o.op≠.defer c)
  (h:∀ (β:Nat->Nat) (a:Act) (w:World),cM X β a w F C I M->∃ w' I' M',(execOp a.eval o).run X.P w=.ok .skip w'/\cM X β a w' F C I' M'/\K F C I' M'):bC X o F C I M K:=by
 refine⟨λa w Q ⟨β,aM⟩=>?_⟩;obtain⟨w',I',M',aa,ad,aj⟩:=h β a w aM;refine Dh b' aa ⟨_,_,_,_,⟨β,?_⟩,aj⟩;rw[ai];exact ad
theorem ZT(aL:cU X.P X.E)(ai:∀ d,o.dst=some d->d<X.n){r:Option Operand}(aD:o.op=.makeMap t r)(h:Ll (X.E t) m=some (v,m'))(af:∀ x,r=some x->∃ k n,bG F x=.val (.int k n))(hm:dc (dV X G pr) D m I M)
  (k:rK X G pr D m I M v m' o.dst F C K):bC X o F C I M K:=by
 unfold Ll at h;split at h
 ·rename_i sa sQ sz gl e au;obtain⟨d,fJ,fj⟩:=(aL _ _ au).fp;have aa:d=.map gl e:=by cases d<;>simp_all[fo]
  subst aa;obtain⟨bi,ad,aj⟩:=HZ h;cases aj;refine ZS ai f7 fun β a w aM=>?_;refine⟨.map (some w.heap.size),w.alloc (.map #[] 0),I,⟨w.heap.size,.map #[] 0⟩::M,?_,aM.nX _,?_⟩
  ·unfold execOp;cases r with
   |none=>simp[aD,Instr.makeMap]| some x=>obtain⟨eQ,tx,ab⟩:=af x rfl;have Pp:=df aM.an ab;simp[aD,Pp,Instr.makeMap,run_underlying fJ,asInt,q0]
  ·have aE:∀ x∈M,x.num≠w.heap.size:=aM.holds.qZ;refine k _ _ _ bR.ES (by simp only[aV];exact⟨_,bR.pS _ _ ⟨w.heap.size,0,0⟩,rfl⟩) (hm.new (a:=⟨w.heap.size,0,0⟩) ad aE ?_);exact .map [] 0 am .nil
 ·cases h
def lp.ZU{D:bR}{M:List aA}{a:Loc}{es:List (aq×aq)}(h:lp D E M a (.map es)):∃ l clock,(⟨a.b,.map l.toArray clock⟩:aA)∈M/\qF D es l:=by
 cases h with
 |map l clock aa ad=>exact⟨l,clock,aa,ad⟩
def aV.map'{id:Nat}(h:aV D (.m id) u):∃ a,D id=some a/\u=.map (some a.b):=by simpa only[aV]using h
theorem alE(aL:cU X.P X.E)(ai:∀ d,o.dst=some d->d<X.n){ok:Bool}(aD:o.op=.lookup t x y ok)(h:QL X.P X.E t m (dq an x) (dq an y) ok=some (v,m'))(H:jf D F an o.op.operands.toList)
  (hm:dc (dV X G pr) D m I M) (k:rK X G pr D m I M v m' o.dst F C K):bC X o F C I M K:=by
 unfold QL at h;split at h
 ·rename_i sa sQ sz gl e id alF au aa ad;obtain⟨wU,h⟩:=fV h;split at h
  ·rename_i es aw;obtain⟨r,af,h⟩:=ct h;obtain⟨inf,hi,h⟩:=ct h;obtain⟨z,bg,h⟩:=ct h;obtain⟨tf,Bc,h⟩:=ct h;cases h;obtain⟨d,fJ,fj⟩:=(aL _ _ au).fp;have fO:d=.map gl e:=by cases d<;>simp_all[fo]
   subst fO;obtain⟨dF,sI,Cq⟩:=ZO aL wU;rw[aD]at H;obtain⟨Cp,aK,a'⟩:=H.bG (x:=x) co aa;obtain⟨vi,ba,bh⟩:=H.bG (x:=y) co ad;obtain⟨a,a7,rfl⟩:=a'.map';have he:=hm.iL _ _ _ aw a7;obtain⟨l,clock,bc,Rm⟩:=he.ZU;have mb:=ZQ Cq bh 0 Rm af;have LL:aV D tf z:=.of Bc;have fin:∀ {q:Option (Nat×Value)},Instr.findNow dF vi l 0=some q->(r=none/\q=none\/∃ H2 j w,r=some H2/\q=some (j,w)/\aV D H2 w)->bC X o F C I M K:=fun {q} aE aO=>by
    refine ZS ai f7 fun β ac w aM=>?_;have e':=alz (P:=X.P) (w:=w) fJ sI (Cq.isKey bh) (aM.holds.m _ bc) aE hi bg ok;have ex:=df aM.an aK;have oD:=df aM.an ba;refine⟨bif ok then .tuple #[(q.map (·.2)).getD z,.bool q.isSome]else(q.map (·.2)).getD z,w,I,M,?_,aM,k D _ M bR.oY ?_ hm⟩;·unfold execOp;simp only[aD,ex,oD,cp,e',bY,db]
    ·unfold Y2;rcases aO with⟨rfl,rfl⟩ | ⟨H2,j,w',rfl,rfl,ak⟩
     ·cases ok
      ·exact LL
      ·exact .LA (.cons LL (.cons lw .nil))
     ·cases ok
      ·exact ak
      ·exact .LA (.cons ak (.cons lw .nil))
   cases r with
   |none=>exact fin mb (.inl ⟨rfl,rfl⟩)| some H2=>obtain⟨j,w,aE,ak⟩:=mb;exact fin aE (.inr ⟨H2,j,w,rfl,rfl,ak⟩)
  ·cases h
 ·cases h
theorem ZV(aL:cU X.P X.E){z:Operand}(aD:o.op=.mapUpdate t x y z\/o.op=.insert t x y z)(h:bu o.dst (HJ X.E t m (dq an x) (dq an y) (dq an z)) (λ_=>none)=some (v,m'))(H:jf D F an o.op.operands.toList)
  (hm:dc (dV X G pr) D m I M) (k:rK X G pr D m I M v m' o.dst F C K):bC X o F C I M K:=by
 cases H0:o.dst with
 |some d=>rw[H0]at h;cases h
 |none=>
  rw[H0]at h k;have ax:HJ X.E t m (dq an x) (dq an y) (dq an z)=some (v,m'):=h;have xH:∀ q,q=x\/q=y\/q=z->q∈o.op.operands.toList:=λq aO=>by
   rcases aD with aD | aD<;>rw[aD]<;>simp[Op.operands]<;>exact aO
  unfold HJ at ax;split at ax
  ·rename_i sa sQ sz gl e id alF tf au aa ad aj;obtain⟨wU,ax⟩:=fV ax;split at ax
   ·rename_i es aw;obtain⟨vk,ke,ax⟩:=ct ax;obtain⟨bi,aJ,bD⟩:=bk.oR (some (fF.map vk)) m.t id;have iC:(m.t.nL (some (fF.map vk)) id λt=>some (aq.t [],(⟨t,m.n⟩:bA)))=some (v,m'):=ax;rw[aJ]at iC;cases iC;obtain⟨d,fJ,fj⟩:=(aL _ _ au).fp;have fO:d=.map gl e:=by cases d<;>simp_all[fo]
    subst fO;obtain⟨dF,sI,Cq⟩:=ZO aL wU;obtain⟨Cp,aK,a'⟩:=H.bG (x:=x) (xH x (.inl rfl)) aa;obtain⟨vi,ba,bh⟩:=H.bG (x:=y) (xH y (.inr (.inl rfl))) ad;obtain⟨LM,cA,bW⟩:=H.bG (x:=z) (xH z (.inr (.inr rfl))) aj;obtain⟨a,a7,rfl⟩:=a'.map';have he:=hm.iL _ _ _ aw a7;obtain⟨l,clock,bc,Rm⟩:=he.ZU;have fin:∀ (eF:List MapEntry) (Cr:Nat),qF D vk eF->(∀ w:World,w.heap[a.b]?=some (.map l.toArray clock)->(Instr.mapUpdate t (.map (some a.b)) vi LM).run X.P w=.ok () { w with heap:=w.heap.setIfInBounds a.b (.map eF.toArray Cr) }) ->
      bC X o F C I M K:=λeF Cr pk e'=>by
     obtain⟨a9,post,di⟩:=vf bc;have mq:M.Perm (⟨a.b,.map l.toArray clock⟩::(a9++post)):=by rw[di];exact mm
     refine alD H0 (by rcases aD with aD | aD<;>rw[aD]<;>simp) fun β ac w h9=>?_;have aM:cM X β ac w F C I (⟨a.b,.map l.toArray clock⟩::(a9++post)):=h9.hT (.perm mq .refl);have Ag:=h9.holds.m _ bc;have ex:=df aM.an aK;have oD:=df aM.an ba;have Pq:=df aM.an cA;have g4:=MapKept.heap_set (o':=Obj.map eF.toArray Cr) Ag;refine⟨_,I,⟨a.b,.map eF.toArray Cr⟩::(a9++post),?_,aM.swap (w':={ w with heap:=w.heap.setIfInBounds a.b (.map eF.toArray Cr) }) am g4.1 g4.2 ⟨rfl,rfl⟩,?_⟩
     ·unfold execOp;rcases aD with aD | aD<;>simp only[aD,ex,oD,Pq,cp,e' w Ag,bY,db]
     ·have nr:∀ q∈M,q.num≠a.b->q∈(⟨a.b,.map eF.toArray Cr⟩:aA)::(a9++post):=λq aO aC=>by
       rcases er.1 (mq.mem_iff.1 aO)with rfl | aO;·exact(aC rfl).elim
       ·exact nO _ aO
      refine k D (.tuple #[]) _ bR.oY (by simp only[aV];exact⟨[],.nil,rfl⟩) ?_;refine hm.step (λi e hi=>(bD i e hi).imp (λq=>⟨q.1,oW q.2⟩) λq=>q) a7 (bR.le_refl D) (λ_ _=>rfl) hm.jL (λ_ _ h=>h) (λi e bN bz hi qH q aO aC=>nr q aO ?_) (.map eF Cr am pk) ?_;·rw[aC];exact λag=>bz (hm.inj _ _ _ _ _ _ hi aw qH a7 ag)
      ·exact λi e bN bz hi qH ag=>bz (hm.inj _ _ _ _ _ _ hi aw qH a7 ag)
    rcases ZR Cq bh bW 0 Rm ke with⟨aE,e6⟩ | ⟨j,c2,aE,ah,av,alG⟩;·exact fin _ (clock+1) (e6 clock) λw Ag=>alA fJ sI (Cq.isKey bh) Ag aE
    ·rw[dn]at aE;have uQ:c2.key=vi:=by
      cases Cq with
      |int=>
       have:=bh.int;subst this;cases ae:c2.key<;>rw[ae]at av<;>simp[Instr.sameNow]at av
       obtain⟨rfl,h⟩:=av;rw[h]
      |str=>
       have:=bh.str;subst this;cases ae:c2.key<;>rw[ae]at av<;>simp[Instr.sameNow,ZP]at av
       rw[av]
     exact fin _ clock alG λw Ag=>alB fJ sI (Cq.isKey bh) Ag aE ah uQ
   ·cases ax
  ·cases ax
end
section
variable{X:cN}{G:GT}{pr:lV}{D:bR}{m m':bA}{F:Fr}{an:bk aq}{C:de}{I:aH}{M:List aA}{K:fz}{o:Oper}{v:aq}
def ZW(aL:cU X.P X.E)(ai:∀ d,o.dst=some d->d<X.n){s d e:Nat}(aD:o.op=.convert s d x){ek bH:Nat}{Rn:List Value}(av:X.E s=some ⟨cP,b1,z7,.slice e⟩)(fO:X.E d=some ⟨ek,bH,Rn,.string⟩)(ag:Ez (X.E e)=true)
  {id off n:Nat} (h:Ln G m id off n=some (v,m')) (ab:∃ a c,D id=some a/\bG F x=.val (.slice (some ⟨a.b,a.o+off,none⟩) n c)) (hm:dc (dV X G pr) D m I M)
  (k:rK X G pr D m I M v m' o.dst F C K):bC X o F C I M K:=by
 unfold Ln at h;obtain⟨a,c,a7,ex⟩:=ab;obtain⟨aR,l,vs,aK,bo,az,h⟩:=wQ (u:=.pointer (some ⟨a.b,a.o+off,none⟩)) hm fd h;cases aK;obtain⟨ch,tt,h⟩:=ct h;cases h;have ij:=ZN tt az;have cQ:ch.length=n:=by have:=bo.2;obtain⟨_,_,_,_,_,ad⟩:=this;rw[<-ad,ij];simp
 subst ij;obtain⟨aB,he,ke⟩:∃ aB,X.E e=some aB/\aB.bL=.int .u8:=by
  unfold Ez at ag;split at ag;·rename_i h;exact⟨_,h,rfl⟩
  ·cases ag
 refine bC.akt aL aD ai av rfl he ke fO rfl ex cQ bo ?_;exact k D _ M bR.oY io hm
def alH(aL:cU X.P X.E)(ai:∀ d,o.dst=some d->d<X.n){s d:Nat}(aD:o.op=.convert s d x)(h:Lo (dV X G pr) m s d (dq an x)=some (v,m'))(H:jf D F an o.op.operands.toList)(hm:dc (dV X G pr) D m I M)
  (k:rK X G pr D m I M v m' o.dst F C K):bC X o F C I M K:=by
 unfold Lo at h;rw[aD]at H;split at h
 ·rename_i aa ad aj;obtain⟨ag,h⟩:=fV h;obtain⟨u,aK,a'⟩:=H.bG (x:=x) co aj;obtain⟨a,a7,rfl⟩:=a'.sP;exact ZW aL ai aD aa ad ag h ⟨a,_,a7,aK⟩ hm k
 ·rename_i aa ad aj;obtain⟨ag,h⟩:=fV h;obtain⟨u,aK,a'⟩:=H.bG (x:=x) co aj;obtain⟨a,a7,_,rfl⟩:=a'.ve;exact ZW aL ai aD aa ad ag h ⟨a,_,a7,aK⟩ hm k
 ·rename_i aa ad aj;obtain⟨ag,h⟩:=fV h;obtain⟨u,aK,a'⟩:=H.bG (x:=x) co aj;cases h;simp only[aV]at a';subst a';obtain⟨aB,he,ke⟩:∃ aB,X.E _=some aB/\aB.bL=.int .u8:=by
   unfold Ez at ag;split at ag;·rename_i h;exact⟨_,h,rfl⟩
   ·cases ag
  refine bC.aku aL aD ai aa rfl he ke ad rfl aK ?_;exact k D _ M bR.oY io hm
 ·cases h
def ZX(q:List UInt8):bO D (q.map λb=>aq.i .u8 (.ofNat b.toNat)) (k' ⟨q.toArray⟩):=by
 unfold k';simp only
 induction q with
 |nil=>exact .nil| cons b q aQ=>exact .cons lw aQ
def LN{l:List Operand}{a b:aq}(h:n9 an l=some [a,b]):∃ x y,l=[x,y]/\dq an x=some a/\dq an y=some b:=by
 match l,h with
 |[],h=>simp[n9]at h
 |[x],h=>
  simp only[n9]at h;split at h;·rename_i aK ba;cases ba;cases h
  ·cases h
 |[x,y],h=>
  simp only[n9]at h;split at h
  ·rename_i aK ba;split at ba
   ·rename_i cA ee;cases ee;cases ba;cases h;exact⟨x,y,rfl,aK,cA⟩
   ·cases ba
  ·cases h
 |x::y::z::l,h=>
  simp only[n9]at h;split at h
  ·rename_i aK ba;split at ba
   ·rename_i cA ee;split at ee
    ·cases ee;cases ba;cases h
    ·cases ee
   ·cases ba
  ·cases h
def dc.sub{M':List aA}(h:dc (dV X G pr) D m I M)(av:∀ x∈M,x∈M'):dc (dV X G pr) D m I M':=
 ⟨λid e a hi a7=>(h.iL id e a hi a7).mono (bR.le_refl D) (λx ab _=>av x ab),h.inj,h.jL,h.qD⟩
def alI(aL:cU X.P X.E)(ai:∀ d,o.dst=some d->d<X.n)(aD:o.op=.call { callee:=.builtin .copy,args:=args,argTypes:=fb })(h:QN (dV X G pr) m fb.toList (n9 an args.toList)=some (v,m'))
  (H:jf D F an args.toList) (hm:dc (dV X G pr) D m I M) (k:rK X G pr D m I M v m' o.dst F C K):bC X o F C I M K:=by
 unfold QN at h;split at h
 ·rename_i t u id off n c q au az;split at h
  ·rename_i sa sQ sz e oz;obtain⟨aB,he,h⟩:=ct h;obtain⟨ag,h⟩:=fV h;rw[cC]at ag;obtain⟨m2,ad,-,-,aj⟩:=Rl (Y:=dV X G pr) h;cases ad;obtain⟨x,y,ml,Cs,alJ⟩:=LN az;obtain⟨Cp,ab,bh⟩:=H.bG (x:=x) GE Cs;obtain⟨vi,aG,fu⟩:=H.bG (x:=y) GE alJ;obtain⟨a,a7,rfl⟩:=bh.sP;have alK:=fu.str;subst alK;obtain⟨g,NZ,a9,post,arr,T,cA,bc,ib,qd,⟨iM,c2,jc,j5,DX,aw⟩,mo⟩:=aj hm (u:=.pointer (some ⟨a.b,a.o+off,none⟩)) fd (ZX q);cases cA;have mq:M.Perm (⟨a.b,.cells arr T (0,0)⟩::(a9++post)):=by rw[bc];exact mm
   have Ct:args=#[x,y]:=by apply lH;simpa using ml
   have Cu:fb=#[t,u]:=by apply lH;simpa using au
   have dk:(⟨q.toArray⟩:ByteArray).size=q.length:=by simp[ByteArray.size]
   have kA:(k' ⟨q.toArray⟩).length=q.length:=by simp[k']
   refine bC.VL aL (by rw[aD,Ct,Cu]) ai oz rfl he (ea ag.1) ab aG (by rw[dk];exact bJ ag.2) (by rw[dk,<-kA];exact ib) mq ?_;rw[dk];have Ro:(a9++(⟨a.b,.cells (cd arr.toList (a.o+off) (k' ⟨q.toArray⟩)).toArray T (0,0)⟩:aA)::post).Perm (⟨a.b,.cells (cd arr.toList (a.o+off) (k' ⟨q.toArray⟩)).toArray T (0,0)⟩::(a9++post)):=mm;exact k D (.int .i64 q.length) _ bR.oY lw (mo.sub λx ab=>Ro.mem_iff.1 ab)
  ·cases h
 ·cases h
end
section
variable{P:Program}{w:World}
def ZY(t u ty e:Nat)(i:TypeInfo)(au:P.underlying t=some (.slice e))(hu:P.underlying u=some mM)(n1:∀ k,mM≠.int k)(hi:P.info? e=some i)
 {n c T:Nat} {arr:Array Value} (aw:w.heap[g]?=some (.cells arr T (0,0))) {x:Value} {m:Nat} (aa:∀ v∈b8,v.oneCell'=true)
  (cQ:∀ w',(Builtin.lenOf x).run P w'=.ok m w') (e6:(Builtin.firstCells i.size m x).run P w=.ok b8.toArray w) (uM:n+m<=c) (ib:off+n*i.size+b8.length<=arr.size) :
  (Builtin.append_ #[t,u] ty #[.slice (some ⟨g,off,none⟩) n c,x]).run P w=.ok (.slice (some ⟨g,off,none⟩) (n+m) c) (w.setRow g (cd arr.toList (off+n*i.size) b8).toArray):=by
 have GJ:(match mM with | .int _=>true | _=>false)=false:=by cases mM<;>first | rfl | exact(n1 _ rfl).elim
 have ff:=run_storeCells_at P g (off+n*i.size) T b8 0 arr w aw wt aa;simp only[pg]at ff;have Rp:(Addr.add ⟨g,off,none⟩ (n*i.size))=⟨g,off+n*i.size,none⟩:=eM _ rfl _;simp[Builtin.append_,run_underlying au,run_underlying hu,sizeOf,typeInfo,hi,cQ,uM,e6,Rp,ff,cd]
def alL(t u ty e:Nat)(i:TypeInfo)(z:Value)(au:P.underlying t=some (.slice e))(hu:P.underlying u=some mM)(n1:∀ k,mM≠.int k)(hi:P.info? e=some i)(bg:i.zero=some z)(qn:z.cells.size=i.size)
 {n c:Nat} (hold:(Builtin.firstCells i.size n (.slice dJ n c)).run P w.drew=.ok xs.toArray w.drew) (rL:xs.length=n*i.size) {x:Value} {m:Nat} (az:b8.length=m*i.size)
  (cQ:∀ w',(Builtin.lenOf x).run P w'=.ok m w') (e6:(Builtin.firstCells i.size m x).run P w.drew=.ok b8.toArray w.drew) (uM:c<n+m) (b1:n+m<=maxLen) (bH:(n+m)*i.bytes<=140737488355328) :
  ∃ cap aS,(Builtin.append_ #[t,u] ty #[.slice dJ n c,x]).run P w=.ok (.slice (some ⟨w.heap.size,0,none⟩) (n+m) cap) (w.drew.alloc (.cells (xs++b8++aS).toArray e (0,0)))/\n+m<=cap/\cap<=maxLen/\(xs++b8++aS).length=cap*i.size:=by
 have GJ:(match mM with | .int _=>true | _=>false)=false:=by cases mM<;>first | rfl | exact(n1 _ rfl).elim
 have aC:¬ (n+m<=c):=by omega
 have ia:n+m<=9223372036854775807:=by simp only[maxLen]at b1;exact b1
 have Bt:¬ (9223372036854775807<((n:Int)+(m:Int))):=by omega
 have Bu:¬ (281474976710656<Builtin.nextslicecap (n+m) c*i.bytes):=by have:=growslice_fits (by omega:c<n+m) bH;omega
 have cV:=grownCap_ge w (n+m) c e;have lP:grownCap w (n+m) c e<=maxLen:=grownCap_le_maxLen w (n+m) c e b1;refine⟨grownCap w (n+m) c e,(Builtin.zeroCells z.cells (grownCap w (n+m) c e-(n+m))).toList,?_,cV,lP,?_⟩
 ·simp[Builtin.append_,run_underlying au,run_underlying hu,sizeOf,typeInfo,zeroValue,hi,bg,cQ,aC,Bt,Bu,Question.forced,e6,hold,newRow,grownCap];congr 2;apply lH;simp
 ·rw[cn,cn,rL,az,xJ,size_zeroCells,qn,<-kx,<-kx];congr 1;omega
end
section
variable{X:cN}{G:GT}{pr:lV}{D:bR}{m m':bA}{F:Fr}{an:bk aq}{C:de}{I:aH}{M:List aA}{K:fz}{o:Oper}{v:aq}
def c6.LO{aR:Addr}{n:Nat}{vs:List Value}(h:c6 I M aR n vs){w:World}(k0:eJ I M w)(j:Nat)(v:Value)(ah:vs[j]?=some v):w.cell? (aR.add j)=some v:=by
 obtain⟨di,cs,T,an,fh,ak,az⟩:=h;rw[eM _ di,td (fh.heap k0)];rw[<-ak,l5]at ah;split at ah
 ·rw[oq]at ah;simpa using ah
 ·cases ah
def alM{x:aq}{k:Nat}{K:List aq->Option R}{r:R}(h:EA G m.t x aB.size K=some r)(av:wM ut aB x=true)(ab:aV D x u)(hm:dc (dV X G pr) D m I M)(ae:sO x=some k)(ax:k≠0) :
  ∃ l vs,K l=some r/\bO D l vs/\(∀ w',(Builtin.lenOf u).run X.P w'=.ok k w')/\(∀ w,eJ I M w->(Builtin.firstCells aB.size k u).run X.P w=.ok vs.toArray w)/\vs.length=k*aB.size /\
   ((∃ a b z e,ut=some ⟨a,b,z,.slice e⟩)\/∃ a b z,ut=some ⟨a,b,z,.string⟩):=by
 have Rq:(∃ a b z e,ut=some ⟨a,b,z,.slice e⟩)\/∃ a b z,ut=some ⟨a,b,z,.string⟩:=by
  unfold wM at av;split at av<;>first | exact .inl ⟨_,_,_,_,rfl⟩ | exact .inr ⟨_,_,_,rfl⟩ | cases av
 cases x<;>simp only[EA]at h<;>first | cases h | skip
 case sn=>simp[sO,wL]at ae;exact(ax ae.symm).elim
 case so=>simp[sO,wL]at ae;exact(ax ae.symm).elim
 case sl id off n c=>
  simp only[sO,wL,kr]at ae;subst ae;obtain⟨a,a7,rfl⟩:=ab.sP;obtain⟨aR,l,vs,aK,bo,az,h⟩:=wQ (u:=.pointer (some ⟨a.b,a.o+off,none⟩)) hm fd h;cases aK;have o0:=bo;obtain⟨_,_,_,_,_,_,cQ⟩:=o0;exact⟨l,vs,h,az,λ_=>rfl,λw hw=>run_firstCells_some (P:=X.P) w aB.size n _ n c vs cQ (λj v ah=>bo.LO hw j v ah),cQ,Rq⟩
 case sx id off e n=>
  simp only[sO,wL,kr]at ae;subst ae;obtain⟨a,a7,_,rfl⟩:=ab.ve;obtain⟨aR,l,vs,aK,bo,az,h⟩:=wQ (u:=.pointer (some ⟨a.b,a.o+off,none⟩)) hm fd h;cases aK;have o0:=bo;obtain⟨_,_,_,_,_,_,cQ⟩:=o0;exact⟨l,vs,h,az,λ_=>rfl,λw hw=>run_firstCells_some (P:=X.P) w aB.size n _ n _ vs cQ (λj v ah=>bo.LO hw j v ah),cQ,Rq⟩
 case s q=>
  simp only[sO,kr]at ae;subst ae;have alN:aB.size=1:=by
   unfold wM at av;split at av<;>first | exact ea av | (rename_i e;cases e) | cases av
  have:=ab.str;subst this;have aO:(⟨q.toArray⟩:ByteArray).size=q.length:=by simp[ByteArray.size]
  refine⟨_,k' ⟨q.toArray⟩,h,ZX q,λw=>?_,λw hw=>?_,by simp[k',alN],Rq⟩;·show Result.ok _ _=_;rw[aO]
  ·have:=Vv w aB.size (P:=X.P) ⟨q.toArray⟩;rw[aO]at this;exact this
theorem Rr(aL:cU X.P X.E)(ai:∀ d,o.dst=some d->d<X.n){s:Operand}{u:Nat}(aD:o.op=.call { callee:=.builtin .append,args:=#[s,x],argTypes:=#[t,u] })
 (au:X.E t=some ⟨cP,b1,z7,.slice e⟩) (hu:X.E u=some me) (fI:∀ k,me.bL≠.int k) (he:X.E e=some aB)
 {n c k:Nat} {Rs:Value} (av:bG F s=.val (.slice dJ n c)) (ab:bG F x=.val Rs) (rL:xs.length=n*aB.size) (pw:b8.length=k*aB.size) (aa:fH b8=true)
  (cQ:∀ w',(Builtin.lenOf Rs).run X.P w'=.ok k w') (e6:∀ w,eJ I M w->(Builtin.firstCells aB.size k Rs).run X.P w=.ok b8.toArray w)
  (hold:∀ w,eJ I M w->(Builtin.firstCells aB.size n (.slice dJ n c)).run X.P w=.ok xs.toArray w) (b1:n+k<=maxLen) (bH:(n+k)*aB.bytes<=140737488355328)
  (alO:n+k<=c->∃ g off T arr a9 post,dJ=some ⟨g,off,none⟩/\M=a9++⟨g,.cells arr T (0,0)⟩::post/\off+n*aB.size+b8.length<=arr.size /\ K (put o.dst (.val (.slice dJ (n+k) c)) F) C I (a9++⟨g,.cells (cd arr.toList (off+n*aB.size) b8).toArray T (0,0)⟩::post))
  (alP:c<n+k->∀ b cap aS,I b=none->(∀ y∈M,y.num≠b)->n+k<=cap->cap<=maxLen->(xs++b8++aS).length=cap*aB.size ->
   K (put o.dst (.val (.slice (some ⟨b,0,none⟩) (n+k) cap)) F) C I (⟨b,.cells (xs++b8++aS).toArray e (0,0)⟩::M)):bC X o F C I M K:=by
 refine⟨λa w Q ⟨β,aM⟩=>?_⟩;obtain⟨inf,z,hi,fq,iy,iz,k3⟩:=(aL _ _ he).inf;obtain⟨d,fJ,fj⟩:=(aL _ _ hu).fp;obtain⟨gV,iD,kB⟩:=(aL _ _ au).fp;have oC:gV=.slice e:=by cases gV<;>simp_all[fo]
 subst oC;have qn:z.cells.size=inf.size:=by rw[fq,<-(aL _ _ he).len,<-k3];simp
 have es:=df aM.an av;have ex:=df aM.an ab;have n1:∀ k,d≠.int k:=λk c2=>fI k ah';rw[<-fq]at rL pw hold e6;by_cases uM:n+k<=c
 ·obtain⟨g,off,T,arr,a9,post,rfl,bc,ib,ae⟩:=alO uM;rw[<-fq]at ib ae;have aw:w.heap[g]?=some (.cells arr T (0,0)):=aM.holds.m ⟨g,.cells arr T (0,0)⟩ (by rw[bc];simp);have e':=ZY (P:=X.P) (w:=w) t u o.type e inf iD fJ n1 hi aw (yZ aa) cQ (e6 w aM.holds) uM ib;refine ix f7 ?_ ⟨_,_,_,_,⟨β,cM.put (x:=.val (.slice (some ⟨g,off,none⟩) (n+k) c)) (aM.xy bc) ai rfl⟩,ae⟩;unfold execOp;simp only[aD,resolve,invoke,builtin,cp,db,bY,rh,b0,hs,es,ex,e']
 ·have k0:eJ I M w.drew:=aM.holds.heap rfl;obtain⟨cap,aS,e',ad,aj,aJ⟩:=alL (P:=X.P) (w:=w) t u o.type e inf z iD fJ n1 hi iz qn (hold w.drew k0) rL pw cQ (e6 w.drew k0) Z b1 aig;have mQ:cM X β a w.drew F C I M:=aM.world rfl;rw[fq]at aJ;refine ix f7 ?_ ⟨_,_,_,_,⟨β,cM.put (x:=.val (.slice (some ⟨w.heap.size,0,none⟩) (n+k) cap)) (mQ.nX (.cells (xs++b8++aS).toArray e (0,0))) ai rfl⟩,alP Z w.heap.size cap aS aM.holds.se aM.holds.qZ ad aj aJ⟩;unfold execOp;simp only[aD,resolve,invoke,builtin,cp,db,bY,rh,b0,hs,es,ex,e']
def ZZ{u:Nat}{x:aq}(h:wM (X.E u) aB x=true):∃ me,X.E u=some me/\∀ k,me.bL≠.int k:=by
 unfold wM at h;split at h<;>first | (cases h;done) | (rename_i e;exact⟨_,e,am⟩) | (rename_i e _;exact⟨_,e,am⟩) | (rename_i e _ _;exact⟨_,e,am⟩)
def alQ{s:aq}(h:EB s=true)(av:aV D s u):∃ a n c,u=.slice a n c/\n<=c:=by
 cases s<;>simp only[EB,lE]at h
 case sn=>exact⟨_,_,_,av.Cm,cc _⟩
 case so=>obtain⟨a,c,rfl⟩:=av.Ly;exact⟨_,_,_,rfl,dQ _⟩
 case sl=>obtain⟨a,_,rfl⟩:=av.sP;exact⟨_,_,_,rfl,bJ h⟩
 case sx=>obtain⟨a,_,bn,rfl⟩:=av.ve;exact⟨_,_,_,rfl,Z⟩
def alR{x:aq}(av:wM ut aB x=true)(ab:aV D x u)(ae:sO x=some 0):(∃ b c,u=.slice b 0 c)\/u=.string .empty:=by
 cases x<;>simp[sO,wL]at ae
 case sn=>exact .inl ⟨_,_,ab.Cm⟩
 case so=>obtain⟨a,c,rfl⟩:=ab.Ly;exact .inl ⟨_,_,rfl⟩
 case sl=>subst ae;obtain⟨a,_,rfl⟩:=ab.sP;exact .inl ⟨_,_,rfl⟩
 case sx=>subst ae;obtain⟨a,_,_,rfl⟩:=ab.ve;exact .inl ⟨_,_,rfl⟩
 case gs=>subst ae;exact .inl ⟨_,_,ab.Q4⟩
 case s=>subst ae;exact .inr ab.str
noncomputable abbrev Rt(X:cN)(G:GT)(m:bA)(s x:aq)(aB:dH)(aF e:Nat):List aq->Option (aq×bA):=λl=>bu (some aF) none λk=>bX (Nat.beq k 0) (bX (EB s) (some (s,m)) none) (bX (l.all aq.one) (HF G m s l k aB.size aB.bytes e) none)
def alS(aL:cU X.P X.E)(ai:∀ d,o.dst=some d->d<X.n){u:Nat}(aD:o.op=.call { callee:=.builtin .append,args:=#[os,qG],argTypes:=#[t,u] })
 (au:X.E t=some ⟨cP,b1,z7,.slice e⟩) {s x:aq} (vl:wM (X.E u) aB x=true) (he:X.E e=some aB) (ae:sO x=some 0) {us:Value}
  (es:bG F os=.val us) (gs:aV D s us) (ex:bG F qG=.val l9) (Ah:aV D x l9) (h:EA G m.t x aB.size (Rt X G m s x aB 0 e)=some (v,m'))
  (hm:dc (dV X G pr) D m I M) (k:rK X G pr D m I M v m' o.dst F C K):bC X o F C I M K:=by
 have ad:∃ l,Rt X G m s x aB 0 e l=some (v,m'):=by
  cases x<;>simp only[EA]at h<;>first | cases h | exact⟨_,h⟩ | skip
  case sl=>obtain⟨a,a7,rfl⟩:=Ah.sP;obtain⟨_,l,_,_,_,_,h⟩:=wQ (u:=.pointer (some ⟨a.b,a.o+_,none⟩)) hm fd h;exact⟨l,h⟩
  case sx=>obtain⟨a,a7,_,rfl⟩:=Ah.ve;obtain⟨_,l,_,_,_,_,h⟩:=wQ (u:=.pointer (some ⟨a.b,a.o+_,none⟩)) hm fd h;exact⟨l,h⟩
 obtain⟨l,ad⟩:=ad;have aj:bX (EB s) (some (s,m)) none=some (v,m'):=ad;obtain⟨ao,aj⟩:=fV aj;cases aj;obtain⟨a,n,c,rfl,mO⟩:=alQ ao gs;obtain⟨me,hu,fI⟩:=ZZ vl;exact bC.OZ aL aD ai au rfl hu fI he es mO ex (alR vl Ah ae) (k D _ M bR.oY gs hm)
theorem alT(aL:cU X.P X.E)(ai:∀ d,o.dst=some d->d<X.n){u:Nat}(aD:o.op=.call { callee:=.builtin .append,args:=#[os,qG],argTypes:=#[t,u] })
 (au:X.E t=some ⟨cP,b1,z7,.slice e⟩) (hu:X.E u=some me) (fI:∀ k,me.bL≠.int k) (he:X.E e=some aB) {us:Value} {id off n c aF:Nat}
  (es:bG F os=.val us) (gs:aV D (.sl id off n c) us) (ex:bG F qG=.val l9) {l:List aq} {vs:List Value} (h:QI G m id off n c l aF aB.size e=some (v,m')) (ia:n+aF<=maxLen) (il:(n+aF)*aB.bytes<=140737488355328)
  (az:bO D l vs) (pL:vs.length=aF*aB.size) (aa:fH vs=true) (cQ:∀ w',(Builtin.lenOf l9).run X.P w'=.ok aF w') (e6:∀ w,eJ I M w->(Builtin.firstCells aB.size aF l9).run X.P w=.ok vs.toArray w)
  (hm:dc (dV X G pr) D m I M) (k:rK X G pr D m I M v m' o.dst F C K):bC X o F C I M K:=by
 have H3:∀ {q:List Value} {c:Nat},q.length=c*aB.size->∀ i,(dV X G pr).E e=some i->q.length=c*i.size:=λaO i hi=>by have:X.E e=some i:=hi;rw[he]at this;cases this;exact aO
 obtain⟨a,a7,rfl⟩:=gs.sP;unfold QI at h;by_cases af:n+aF<=c
 ·have ag:Nat.ble (Nat.add n aF) c=true:=Eb af;rw[ag]at h;have bd:yj m (.p id (Nat.add off (Nat.mul n aB.size))) l (λm=>some (aq.sl id off (Nat.add n aF) c,m))=some (v,m'):=h;obtain⟨m2,ad,-,-,aj⟩:=Rl (Y:=dV X G pr) bd;cases ad;obtain⟨g,NZ,a9,post,arr,T,aK,bc,ib,qd,⟨iM,c2,jc,j5,DX,aw⟩,mo⟩:=aj hm (u:=.pointer (some ⟨a.b,a.o+(off+n*aB.size),none⟩)) fd az;cases aK;refine⟨λac w Q ⟨β,aM⟩=>?_⟩;obtain⟨inf,z,hi,fq,iy,iz,k3⟩:=(aL _ _ he).inf;obtain⟨d,fJ,fj⟩:=(aL _ _ hu).fp;obtain⟨gV,iD,kB⟩:=(aL _ _ au).fp;have oC:gV=.slice e:=by cases gV<;>simp_all[fo]
  subst oC;have aw:w.heap[a.b]?=some (.cells arr T (0,0)):=aM.holds.m ⟨a.b,.cells arr T (0,0)⟩ (by rw[bc];simp);have vk:=df aM.an es;have Cv:=df aM.an ex;rw[<-fq]at e6;have e':=ZY (P:=X.P) (w:=w) t u o.type e inf iD fJ (λk c2=>fI k ah') hi aw (yZ aa) cQ (e6 w aM.holds) af (off:=a.o+off) (by rw[fq];omega);rw[fq,ux]at e';have mQ:=aM.xy (cs':=(cd arr.toList (a.o+(off+n*aB.size)) vs).toArray) bc;refine ix f7 ?_ ⟨_,_,_,_,⟨β,cM.put (x:=.val (.slice (some ⟨a.b,a.o+off,none⟩) (n+aF) c)) mQ ai rfl⟩,?_⟩;·unfold execOp;simp only[aD,resolve,invoke,builtin,cp,db,bY,rh,b0,hs,vk,Cv,e']
  ·exact k D _ _ bR.oY fd mo
 ·have ag:Nat.ble (Nat.add n aF) c=false:=by
   cases ag:Nat.ble (Nat.add n aF) c with
   |false=>rfl| true=>exact absurd (bJ ag) af
  rw[ag]at h;have bd:tQ G m.t (.p id off) (Nat.mul n aB.size) (λdI=>vc m (dI++l) e λid m=>some (aq.sx id 0 0 (Nat.add n aF),m))=some (v,m'):=h;obtain⟨aR,dI,xs,aK,bo,fg,ad⟩:=wQ (u:=.pointer (some ⟨a.b,a.o+off,none⟩)) hm fd bd;cases aK;obtain⟨m2,cG,aC,eZ⟩:=Rh (Y:=dV X G pr) ad;cases cG;have o0:=bo;obtain⟨_,_,_,_,_,_,kG⟩:=o0;refine Rr aL ai aD au hu fI he es ex kG pL aa cQ e6 (λw hw=>run_firstCells_some (P:=X.P) w aB.size n _ n c xs kG (λj v ah=>bo.LO hw j v ah)) ia il (λfB=>(af fB).elim) λ_ b cap aS bE aE yo vm rM=>?_;refine k _ _ _ bR.ES ?_ (eZ aS hm aE (fg.append az) (H3 rM) vm);simp only[aV];exact⟨_,bR.pS _ _ _,by simpa using yo,am⟩
def alU(aL:cU X.P X.E)(ai:∀ d,o.dst=some d->d<X.n){u:Nat}(aD:o.op=.call { callee:=.builtin .append,args:=#[os,qG],argTypes:=#[t,u] })
 (au:X.E t=some ⟨cP,b1,z7,.slice e⟩) (hu:X.E u=some me) (fI:∀ k,me.bL≠.int k) (he:X.E e=some aB) {us:Value} {id n fK aF:Nat} {cs:bk aq}
  (es:bG F os=.val us) (gs:aV D (.sx id 0 0 n) us) (ex:bG F qG=.val l9) (aw:m.t.get id=some (.cells cs e fK)) {l:List aq} {vs:List Value} (h:QJ m id n cs fK l aF aB.size e=some (v,m')) (ia:n+aF<=maxLen) (il:(n+aF)*aB.bytes<=140737488355328)
  (az:bO D l vs) (pL:vs.length=aF*aB.size) (aa:fH vs=true) (cQ:∀ w',(Builtin.lenOf l9).run X.P w'=.ok aF w') (e6:∀ w,eJ I M w->(Builtin.firstCells aB.size aF l9).run X.P w=.ok vs.toArray w)
  (hm:dc (dV X G pr) D m I M) (k:rK X G pr D m I M v m' o.dst F C K):bC X o F C I M K:=by
 obtain⟨a,a7,bn,rfl⟩:=gs.ve;have qc:=hm.iL _ _ _ aw a7;obtain⟨arr,yp,bc,dk,ao,ae,ih⟩:=qc;unfold QJ at h;obtain⟨Ad,h⟩:=fV h;have Z0:n*aB.size<=fK:=bJ Ad;obtain⟨t1,ad,aj⟩:=bk.oR (none:Option fF) m.t id;rw[ad]at h;obtain⟨cs',aJ,bD⟩:=bk.ym l cs (Nat.mul n aB.size);have bd:bk.yf l cs (Nat.mul n aB.size) (λcs=>Cg (⟨t1,m.n⟩:bA) (.cells cs e (Nat.mul (Nat.add n aF) aB.size)) λid m=>some (aq.sx id 0 0 (Nat.add n aF),m))=some (v,m'):=h;rw[aJ]at bd;obtain⟨t2,cG,eZ⟩:=HZ bd;cases eZ;have j1:∀ i e7,t1.get i=some e7->i≠id/\m.t.get i=some e7:=λi e7 hi=>by
  rcases aj i e7 hi with⟨_,fx⟩ | fx;·cases fx
  ·exact fx
 have Z1:dc (dV X G pr) D ⟨t1,m.n⟩ I M:=⟨λi e7 b hi=>hm.iL i e7 b (j1 i e7 hi).2,λi gQ e7 Ai b ik hi cz=>hm.inj i gQ e7 Ai b ik (j1 i e7 hi).2 (j1 gQ Ai cz).2,hm.jL,hm.qD⟩;have Z2:arr.size=a.c*aB.size:=by have:=ae aB he;rw[yp,dn]at this;exact this
 have Lx:=az.len;have rL:((arr.toList.take (n*aB.size)).length=n*aB.size):=by rw[fT,xJ];omega
 have Cw:∀ j,j<n*aB.size->∀ v,cs.get j=some v->∃ x,(arr.toList.take (n*aB.size))[j]?=some x/\aV D v x:=λj ah v ak=>by obtain⟨x,a',bh⟩:=ao j v Z ak;rw[yp,dn]at a';exact⟨x,by rw[l5,b2 ah];simpa using a',bh⟩
 have Z3:∀ (bF:bR) (M':List aA) (b fl:Nat) (bm:List Value),D.le bF->(⟨b,.cells (arr.toList.take (n*aB.size)++vs++bm).toArray e (0,0)⟩:aA)∈M'->(arr.toList.take (n*aB.size)++vs++bm).length=fl*aB.size->fl<=maxLen ->
   lp bF X.E M' ⟨b,0,fl⟩ (.cells cs' e (Nat.mul (Nat.add n aF) aB.size)):=by
  intro bF M' b fl bm dh yq alV alW;have hmul:(n+aF)*aB.size=n*aB.size+aF*aB.size:=kx _ _ _;refine .cells _ rfl yq ?_ (λi v hi vj=>?_) (λi hi=>?_) alW;·show 0+(n+aF)*aB.size<=_;rw[s5,cn,cn,rL,pL];omega
  ·have cz:i<n*aB.size+aF*aB.size:=by have:i<(n+aF)*aB.size:=hi;omega
   simp only[dn,A0];rcases bD i v vj with⟨a',bh⟩ | ⟨a',bh⟩;·have LP:n*aB.size<=i:=a';obtain⟨x,bW,fu⟩:=az.get (i:=i-n*aB.size) bh;refine⟨x,?_,fu.mono dh⟩;rw[dW,lO Z,rL,sr Z];exact bW
   ·have LP:i<n*aB.size:=by
     rcases a' with a' | a';·exact a'
     ·have:n*aB.size+l.length<=i:=a';omega
    obtain⟨x,bW,fu⟩:=Cw i LP v bh;refine⟨x,?_,fu.mono dh⟩;rw[dW,sr Z];exact bW
  ·rw[he]at hi;cases hi;simpa using alV
 refine Rr aL ai aD au hu fI he es ex rL pL aa cQ e6 (λw hw=>?_) ia il (λaf=>?_) λ_ b cap aS bE aE yo vm rM=>?_
 ·refine run_firstCells_some (P:=X.P) w aB.size n _ n _ _ rL λj v ah=>?_;rw[eM _ rfl,td (hw.m _ bc)];rw[l5]at ah;split at ah
  ·rw[yp];simpa using ah
  ·cases ah
 ·
  obtain⟨a9,post,di⟩:=vf bc;rw[DT]at af;have ib:a.o+0+n*aB.size+vs.length<=arr.size:=by have dT:=p' aB.size af;rw[kx]at dT;rw[yp,Z2,pL];omega
  refine⟨a.b,a.o+0,e,arr,a9,post,rfl,di,ib,?_⟩;have Z4:cd arr.toList (a.o+0+n*aB.size) vs=arr.toList.take (n*aB.size)++vs++arr.toList.drop (n*aB.size+vs.length):=by rw[yp];simp only[cd,dn]
  rw[Z4];have nr:∀ q∈M,q.num≠a.b->q∈a9++(⟨a.b,.cells (arr.toList.take (n*aB.size)++vs++arr.toList.drop (n*aB.size+vs.length)).toArray e (0,0)⟩:aA)::post:=λq aO aC=>by
   rw[di]at aO;rcases c1.1 aO with aO | aO;·exact c1.2 (.inl aO)
   ·rcases er.1 aO with rfl | aO
    ·exact(aC rfl).elim
    ·exact c1.2 (.inr (nO _ aO))
  have H4:∀ i e7 b,t1.get i=some e7->D i=some b->b.b≠a.b:=λi e7 b hi ag Cx=>(j1 i e7 hi).1 (hm.inj _ _ _ _ _ _ (j1 i e7 hi).2 aw ag a7 Cx);refine k _ _ _ bR.ES ?_ (Z1.step (m:=⟨t1,m.n⟩) (j:=m.n) (λi e7 hi=>(cG i e7 hi).imp (λq=>⟨q.1,oW q.2⟩) λq=>q) (D.pS _ ⟨a.b,0,a.c⟩) (bR.Ab _ hm.fresh) (λi hi=>by unfold bR.set;rw[bS hi]) (λi b ag=>?_) (λ_ _ h=>h) (λi e7 b bz hi ag q aO aC=>nr q aO (by rw[aC];exact H4 i e7 b hi ag)) (Z3 _ _ _ _ (arr.toList.drop (n*aB.size+vs.length)) (bR.Ab _ hm.fresh) am ?_ ih) λi e7 b bz hi ag=>H4 i e7 b hi ag);·simp only[aV];exact⟨_,bR.pS _ _ _,by simpa using af,by rw[yp];rfl⟩
  ·unfold bR.set at ag;split at ag
   ·show i<m.n+1;omega
   ·have:=hm.jL _ _ ag;show i<m.n+1;omega
  ·rw[<-Z4,Rk wt];simpa using Z2
 ·
  refine k _ _ _ bR.ES ?_ (Z1.new (m:=⟨t1,m.n⟩) (a:=⟨b,0,cap⟩) cG aE (Z3 _ _ _ _ _ (bR.Ab _ hm.fresh) am rM vm));simp only[aV];exact⟨_,bR.pS _ _ _,by simpa using yo,am⟩
def alX(aL:cU X.P X.E)(ai:∀ d,o.dst=some d->d<X.n){u:Nat}(aD:o.op=.call { callee:=.builtin .append,args:=#[os,qG],argTypes:=#[t,u] })
 (au:X.E t=some ⟨cP,b1,z7,.slice e⟩) {s x:aq} (vl:wM (X.E u) aB x=true) (he:X.E e=some aB) {aF:Nat} (ae:sO x=some aF) (ax:aF≠0) {us:Value}
  (es:bG F os=.val us) (gs:aV D s us) (ex:bG F qG=.val l9) (Ah:aV D x l9) (h:EA G m.t x aB.size (Rt X G m s x aB aF e)=some (v,m'))
  (hm:dc (dV X G pr) D m I M) (k:rK X G pr D m I M v m' o.dst F C K):bC X o F C I M K:=by
 obtain⟨l,vs,ad,az,cQ,e6,pL,_⟩:=alM (ut:=X.E u) h vl Ah hm ae ax;have aj:bX (Nat.beq aF 0) (bX (EB s) (some (s,m)) none) (bX (l.all aq.one) (HF G m s l aF aB.size aB.bytes e) none)=some (v,m'):=ad;rw[hF ax]at aj;have aJ:bX (l.all aq.one) (HF G m s l aF aB.size aB.bytes e) none=some (v,m'):=aj;obtain⟨qd,aJ⟩:=fV aJ;have aa:=az.one qd;obtain⟨me,hu,fI⟩:=ZZ vl;have H3:∀ {q:List Value} {c:Nat},q.length=c*aB.size->∀ i,(dV X G pr).E e=some i->q.length=c*i.size:=λaO i hi=>by have:X.E e=some i:=hi;rw[he]at this;cases this;exact aO
 cases s<;>simp only[HF]at aJ<;>first | cases aJ | skip
 case sn=>
  obtain⟨ag,bD⟩:=fV aJ;rw[cC]at ag;obtain⟨m2,cG,aC,eZ⟩:=Rh (Y:=dV X G pr) bD;cases cG;have lr:=gs.Cm;subst lr;have ia:0+aF<=maxLen:=by rw[dn];exact bJ ag.2
  have il:(0+aF)*aB.bytes<=140737488355328:=by rw[dn];exact bJ ag.1
  refine Rr aL ai aD au hu fI he (n:=0) (c:=0) (xs:=[]) es ex am pL aa cQ e6 (λw _=>by simp[run_firstCells_none]) ia il (λaf=>Z) λ_ b cap aS bE aE yo vm rM=>?_;refine k _ _ _ bR.ES ?_ (eZ aS hm aE az (H3 rM) vm);simp only[aV];exact⟨_,bR.pS _ _ _,by simpa using yo,am⟩
 case sl=>
  obtain⟨ag,bD⟩:=fV aJ;rw[cC]at ag;exact alT aL ai aD au hu fI he es gs ex bD (bJ ag.2) (bJ ag.1) az pL aa cQ e6 hm k
 case sx=>
  split at aJ;·rename_i aw;obtain⟨ag,bD⟩:=fV aJ;simp only[cC]at ag;obtain⟨⟨fP,fr⟩,kK,D3,D4⟩:=ag;have d1:=ea fP;have d2:=ea fr;have d3:=ea kK;subst d1;subst d2;subst d3;exact alU aL ai aD au hu fI he es gs ex aw bD (bJ D4) (bJ D3) az pL aa cQ e6 hm k
  ·cases aJ
def alY(aL:cU X.P X.E)(ai:∀ d,o.dst=some d->d<X.n)(aD:o.op=.call { callee:=.builtin .append,args:=args,argTypes:=fb })(h:QM (dV X G pr) m fb.toList (n9 an args.toList)=some (v,m'))
  (H:jf D F an args.toList) (hm:dc (dV X G pr) D m I M) (k:rK X G pr D m I M v m' o.dst F C K):bC X o F C I M K:=by
 unfold QM at h;split at h
 ·rename_i t u s x au az;split at h
  ·rename_i sa sQ sz e oz;obtain⟨aB,he,h⟩:=ct h;obtain⟨vl,h⟩:=fV h;obtain⟨os,qG,ml,gw,Cs⟩:=LN az;obtain⟨us,es,gs⟩:=H.bG (x:=os) GE gw;obtain⟨l9,ex,Ah⟩:=H.bG (x:=qG) GE Cs;have Ct:args=#[os,qG]:=by apply lH;simpa using ml
   have Cu:fb=#[t,u]:=by apply lH;simpa using au
   have wg:o.op=.call { callee:=.builtin .append,args:=#[os,qG],argTypes:=#[t,u] }:=by rw[aD,Ct,Cu]
   cases ae:sO x with
   |none=>
    exfalso;unfold wM at vl;split at vl<;>first | (cases vl;done) | (simp[sO,wL]at ae;done)
   |some aF=>
    rw[ae]at h;by_cases ax:aF=0;·subst ax;exact alS aL ai wg oz vl he ae es gs ex Ah h hm k
    ·exact alX aL ai wg oz vl he ae ax es gs ex Ah h hm k
  ·cases h
 ·cases h
end
section
variable{X:cN}{β:Nat->Nat}{F:Fr}{C:de}{I:aH}{M:List aA}{o:Oper}{K:fz}
theorem Ru(aL:cU P E){cS:dH}(au:E t=some cS)(dt:cS.bL=.slice e):P.underlying t=some (.slice e):=by
 obtain⟨gV,iD,kB⟩:=(aL _ _ au).fp;have oC:gV=.slice e:=by rw[dt]at kB;cases gV<;>simp_all[fo]
 rw[iD,oC]
def fL.Rv(aL:cU P E){cS:dH}(au:E t=some cS)(dt:cS.bL=.slice e){n c c':Nat}{V:Value->Prop}
  (h:V (.bool a.isNone)):fL P .eql t x y (.val (.slice a n c)) (.val (.slice none hM c')) V other:=by
 have aa:=Ru aL au dt;refine .mk _ _ _ rfl rfl (λw=>?_) h;have aK:(eqGuard .eql t x y (.slice a n c) (.slice none hM c')).run P w=.ok () w:=by unfold eqGuard;rfl
 simp only[cp,aK,bY];exact Lib.run_eql_slice_nil w t e a n c hM c' aa
def bC.slice3(aL:cU X.P X.E)(aD:o.op=.slice t x (some lo) (some hi) (some mx))(ai:∀ d,o.dst=some d->d<X.n)
 {cS:dH} (au:X.E t=some cS) (dt:cS.bL=.slice e) (he:X.E e=some aB) {aR:Option Addr} {n c:Nat} (l h m:Nat) {eQ:IntKind}
  (ab:bG F x=.val (.slice aR n c)) (fg:bG F lo=.val (.int eQ (l:Nat))) (gB:bG F hi=.val (.int cZ (h:Nat))) (ih:bG F mx=.val (.int hq (m:Nat)))
  (aa:l<=h) (ad:h<=m) (aj:m<=c) (k:K (put o.dst (.val (.slice (if m=l then aR else aR.map (·.add (l*aB.size))) (h-l) (m-l))) F) C I M):bC X o F C I M K:=by
 refine⟨λa w Q ⟨β,aM⟩=>?_⟩;have hu:=Ru aL au dt;refine ix f7 (v:=.slice (if m=l then aR else aR.map (·.add (l*aB.size))) (h-l) (m-l)) (w':=w) ?_ ⟨_,_,_,_,⟨β,cM.put (x:=.val (.slice (if m=l then aR else aR.map (·.add (l*aB.size))) (h-l) (m-l))) aM ai rfl⟩,k⟩;have ex:=df aM.an ab;have aK:=df aM.an fg;have ba:=df aM.an gB;have cA:=df aM.an ih;simp only[execOp,aD,Instr.sliceAt,Instr.slice,Instr.sliceBounds,Instr.sliceBound,ex,cp,run_underlying hu,bY,(aL _ _ he).run_sizeOf,db,kW,uw,aK,ba,cA,q0];rw[b2 ⟨Z,Z⟩];simp only[db,bY,hC];rw[b2 ⟨Z,Z⟩];simp only[db,bY,hC];rw[b2 ⟨Z,Z⟩];simp
end
section
variable{X:cN}{G:GT}{pr:lV}{D:bR}{m m':bA}{F:Fr}{an:bk aq}{C:de}{I:aH}{M:List aA}{K:fz}{o:Oper}{v:aq}
def alZ(aL:cU X.P X.E)(ai:∀ d,o.dst=some d->d<X.n)(aD:o.op=.call { callee:=.builtin .unsafeString,args:=args,argTypes:=fb })(h:QO (dV X G pr) m fb.toList (n9 an args.toList)=some (v,m'))
  (H:jf D F an args.toList) (hm:dc (dV X G pr) D m I M) (k:rK X G pr D m I M v m' o.dst F C K):bC X o F C I M K:=by
 unfold QO at h;split at h
 ·rename_i uH it au az;cases h;obtain⟨op,on,ml,aa,ad⟩:=LN az;obtain⟨Cp,aK,a'⟩:=H.bG (x:=op) GE aa;obtain⟨vi,ba,bh⟩:=H.bG (x:=on) GE ad;have Ct:args=#[op,on]:=by apply lH;simpa using ml
  have Cu:fb=#[uH,it]:=by apply lH;simpa using au
  have LP:Cp=.pointer none:=by simpa only[aV]using a'
  subst LP;rw[bh.int]at ba;refine bC.VK (by rw[aD,Ct,Cu]) ai aK ba (k D _ M bR.oY ?_ hm);simp only[aV];rfl
 ·rename_i uH it id n au az;split at h
  ·rename_i sa sQ sz e cs T fK al0 aw;obtain⟨aB,he,eZ⟩:=ct h;obtain⟨ag,fx⟩:=fV eZ;simp only[cC]at ag;obtain⟨op,on,ml,aa,ad⟩:=LN az;obtain⟨Cp,aK,a'⟩:=H.bG (x:=op) GE aa;obtain⟨vi,ba,bh⟩:=H.bG (x:=on) GE ad;have Ct:args=#[op,on]:=by apply lH;simpa using ml
   have Cu:fb=#[uH,it]:=by apply lH;simpa using au
   rw[bh.int]at ba;obtain⟨a,a7,rfl⟩:=a'.ptr;have qc:=hm.iL _ _ _ aw a7;obtain⟨arr,yp,bc,dk,ao,ae,ih⟩:=qc;have H3:=ea ag.2.1;subst H3;unfold tQ at fx;simp only[aw]at fx;cases Rw:Nat.ble (Nat.add 0 n) fK with
   |false=>rw[Rw]at fx;cases fx| true=>
   rw[Rw]at fx;simp only[cF]at fx;have pw:0+n<=fK:=bJ Rw;obtain⟨l,fP,fr,dT⟩:=bk.EH cs n 0 _ _ fx;obtain⟨ch,tt,qs⟩:=ct dT;obtain⟨OJ,Rx⟩:=fV qs;obtain⟨t1,aJ,bD⟩:=bk.oR (none:Option fF) m.t id;rw[aJ]at Rx;cases Rx;have zD:(arr.toList.take n).length=n:=by rw[fT,xJ];omega
   have EU:bO D l (arr.toList.take n):=bO.HP (by rw[zD,fP]) λi v hi=>by
    have fv:i<n:=by rw[<-fP];exact(iP.1 hi).1
    obtain⟨x,bW,fu⟩:=ao i v Z (by have:=fr i fv;rw[dn]at this;rw[this,hi]);rw[yp,dn]at bW;exact⟨x,by rw[l5,b2 fv];simpa using bW,fu⟩
   have ij:=ZN tt EU;have kA:ch.length=n:=by have:=congrArg List.length ij;rw[zD]at this;simpa using this.symm
   obtain⟨a9,post,di⟩:=vf bc;have mq:M.Perm (⟨a.b,.cells arr T (0,0)⟩::(a9++post)):=by rw[di];exact mm
   have lM:arr.toList.take ch.length=ch.map λb=>Value.int .u8 b.toNat:=by rw[kA];exact ij
   have ax:ch≠[]:=λc2=>by subst c2;have:0<n:=bJ ag.2.2;simp at kA;omega
   have eu:bG F op=.val (.pointer (some ⟨a.b,0,none⟩)):=by rw[aK,yp]
   have q2:bG F on=.val (.int .i64 ch.length):=by rw[ba,kA];rfl
   refine bC.OI aL (by rw[aD,Ct,Cu]) ai al0 rfl he (ea ag.1) eu q2 ax (by rw[kA];exact bJ OJ) mq lM ?_;have j1:∀ i e7,t1.get i=some e7->i≠id/\m.t.get i=some e7:=λi e7 hi=>by
    rcases bD i e7 hi with⟨_,fx⟩ | fx;·cases fx
    ·exact fx
   refine k D _ _ bR.oY io ⟨λi e7 b hi ia=>?_,λi gQ e7 Ai b ik hi cz=>hm.inj i gQ e7 Ai b ik (j1 i e7 hi).2 (j1 gQ Ai cz).2,hm.jL,hm.qD⟩;refine(hm.iL i e7 b (j1 i e7 hi).2 ia).mono (bR.le_refl D) λq aO aC=>?_;rcases er.1 (mq.mem_iff.1 aO)with rfl | aO;·exact((j1 i e7 hi).1 (hm.inj _ _ _ _ _ _ (j1 i e7 hi).2 aw ia a7 aC.symm)).elim
   ·exact aO
  ·cases h
 ·cases h
def al1(aL:cU X.P X.E)(ai:∀ d,o.dst=some d->d<X.n){v:aq}(aD:o.op=.slice t x (some lo) (some hi) (some mx))(h:QF X.E t (dq an x) (dq an lo) (dq an hi) (dq an mx)=some v)
  (H:jf D F an o.op.operands.toList) (hm:dc (dV X G pr) D m I M) (k:∀ x,gv D x v->K (put o.dst x F) C I M):bC X o F C I M K:=by
 unfold QF at h;split at h
 ·rename_i sz hD z e id off n c eQ l cZ bd hq gl au ab fg gB ih;obtain⟨aB,he,eZ⟩:=ct h;obtain⟨ag,fx⟩:=fV eZ;simp only[cC]at ag;obtain⟨b1,bH,cJ,dS⟩:=ag;cases fx;have b1:=bJ b1;have bH:=bJ bH;have cJ:=bJ cJ;have dS:l+1<=gl:=bJ dS;obtain⟨B0,eB,Aj⟩:=H.bG (x:=x) ii ab;obtain⟨Cp,aK,a'⟩:=H.bG (x:=lo) ii fg;obtain⟨vi,ba,bh⟩:=H.bG (x:=hi) ii gB;obtain⟨LM,cA,bW⟩:=H.bG (x:=mx) ii ih;rw[a'.int]at aK;rw[bh.int]at ba;rw[bW.int]at cA;simp only[aV]at Aj;obtain⟨a,a7,rfl⟩:=Aj;refine bC.slice3 aL aD ai au rfl he l bd gl eB aK ba cA b1 bH cJ (k _ (.val ?_));simp only[aV];refine⟨a,a7,?_⟩;rw[bS Z,kW,eM _ rfl];simp only[z6,EN,EO,ux]
 ·cases h
def Z5{hD:Nat}{z:List Value}{n c h m:Nat}(aD:o.op=.slice t x none (some hi) (some mx))(au:X.E t=some ⟨sz,hD,z,.slice e⟩)(he:X.E e=some aB)
  (ab:bG F x=.val (.slice a n c)) (dg:bG F hi=.val (.int cZ (h:Nat))) (hm:bG F mx=.val (.int hq (m:Nat))) (aa:h<=m) (ad:m<=c) (k:K (put o.dst (.val (.slice (if m=0 then a else a.map (·.add (0*aB.size))) (h-0) (m-0))) F) C I M):gb X o F C I M K:=by
 obtain⟨dst,Cy,ty,pos,after,guard⟩:=o;simp only at aD;subst aD;have aK:dz (dr F) x=.val (.slice a n c):=ab;have ba:dz (dr F) hi=.val (.int cZ (h:Nat)):=dg;have cA:dz (dr F) mx=.val (.int hq (m:Nat)):=hm;simp only[gb,cK,au,he,aK,ba,cA,uw,kW];exact⟨h,m,rfl,rfl,aa,ad,k⟩
def al2(aL:cU X.P X.E)(ai:∀ d,o.dst=some d->d<X.n){v:aq}(aD:o.op=.slice t x none (some hi) (some mx))(h:QE X.E t (dq an x) (dq an hi) (dq an mx)=some v)
  (H:jf D F an o.op.operands.toList) (hm:dc (dV X G pr) D m I M) (k:∀ x,gv D x v->K (put o.dst x F) C I M):gb X o F C I M K:=by
 unfold QE at h;split at h
 ·rename_i sz hD z e id off n c cZ bd hq gl au ab gB ih;obtain⟨aB,he,eZ⟩:=ct h;obtain⟨ag,fx⟩:=fV eZ;simp only[cC]at ag;obtain⟨bH,cJ,dS⟩:=ag;cases fx;have bH:=bJ bH;have cJ:=bJ cJ;have dS:0+1<=gl:=bJ dS;obtain⟨B0,eB,Aj⟩:=H.bG (x:=x) ii ab;obtain⟨vi,ba,bh⟩:=H.bG (x:=hi) ii gB;obtain⟨LM,cA,bW⟩:=H.bG (x:=mx) ii ih;rw[bh.int]at ba;rw[bW.int]at cA;simp only[aV]at Aj;obtain⟨a,a7,rfl⟩:=Aj;refine Z5 aD au he eB ba cA bH cJ (k _ (.val ?_));simp only[aV];refine⟨a,a7,?_⟩;rw[bS Z,kW,eM _ rfl];simp
 ·rename_i sz hD z e id off ba n cZ bd hq gl au ab gB ih;obtain⟨aB,he,eZ⟩:=ct h;obtain⟨ag,fx⟩:=fV eZ;simp only[cC]at ag;obtain⟨bH,cJ,dS⟩:=ag;cases fx;have bH:=bJ bH;have cJ:=bJ cJ;have dS:0+1<=gl:=bJ dS;obtain⟨B0,eB,Aj⟩:=H.bG (x:=x) ii ab;obtain⟨vi,ba,bh⟩:=H.bG (x:=hi) ii gB;obtain⟨LM,cA,bW⟩:=H.bG (x:=mx) ii ih;rw[bh.int]at ba;rw[bW.int]at cA;simp only[aV]at Aj;obtain⟨a,a7,bn,rfl⟩:=Aj;refine Z5 aD au he eB ba cA bH Z (k _ (.val ?_));simp only[aV];refine⟨a,a7,?_⟩;rw[bS Z,kW,eM _ rfl];simp
 ·cases h
def al3(ai:∀ d,o.dst=some d->d<X.n){v:aq}(aD:o.op=.unOp .xor t x)(h:QG (dq an x)=some v)(H:jf D F an o.op.operands.toList)(k:∀ x,gv D x v->K (put o.dst x F) C I M):gb X o F C I M K:=by
 unfold QG at h;split at h
 ·rename_i n ab;cases h;obtain⟨u,e,hu⟩:=H.bG (x:=x) ii ab;rw[hu.int]at e;have q:bC X o F C I M K:=bC.GN aD ai e (k _ (.val io));obtain⟨dst,Cy,ty,pos,after,guard⟩:=o;simp only at aD;subst aD;exact q
 ·cases h
def al4(aD:o.op=.slice t x (some lo) (some hi) (some mx))(k:bC X o F C I M K):gb X o F C I M K:=by
 obtain⟨dst,Cy,ty,pos,after,guard⟩:=o;simp only at aD;subst aD;simp only[gb,cK];split
 ·rename_i e;cases e
 ·rename_i e;cases e
 ·split
  ·rename_i e _;cases e
  ·exact k
 ·exact k
def Z6:Op->Bool
 | .makeMap .. | .lookup .. | .mapUpdate .. | .insert ..=>true| .call { callee:=.builtin .append,.. }=>true| .call { callee:=.builtin .copy,.. }=>true| .call { callee:=.builtin .unsafeString,.. }=>true| _=>false
def Ak{op:Op}(aD:o.op=op)(h:Z6 op=true)(k:bC X o F C I M K):gb X o F C I M K:=by
 obtain⟨dst,Cy,ty,pos,after,guard⟩:=o;simp only at aD;subst aD;unfold Z6 at h;split at h<;>first | exact k | cases h
def al5(aL:cU X.P X.E)(ai:∀ d,o.dst=some d->d<X.n)(h:QP (dV X G pr) m o an=some (v,m'))(H:jf D F an o.op.operands.toList)(hm:dc (dV X G pr) D m I M)(k:rK X G pr D m I M v m' o.dst F C K):gb X o F C I M K:=by
 unfold QP at h;split at h
 ·rename_i t x y aD;exact alC aD h H hm k
 ·rename_i t aD;exact Ak aD rfl (ZT aL ai aD h am hm k)
 ·rename_i t x aD;split at h
  ·rename_i gl n ab;refine Ak aD rfl (ZT aL ai aD h (λy aG=>?_) hm k);cases aG;obtain⟨u,aK,a'⟩:=H.bG (x:=x) ii ab;rw[a'.int]at aK;exact⟨_,_,aK⟩
  ·cases h
 ·rename_i t x y ok aD;exact Ak aD rfl (alE aL ai aD h H hm k)
 ·rename_i t x y z aD;exact Ak aD rfl (ZV aL (.inl aD) h H hm k)
 ·rename_i t x y z aD;exact Ak aD rfl (ZV aL (.inr aD) h H hm k)
 ·rename_i s d x aD;have LQ:=alH aL ai aD h H hm k;obtain⟨dst,Cy,ty,pos,after,guard⟩:=o;simp only at aD;subst aD;have sH:∃ a b z,X.E d=some ⟨a,b,z,.string⟩:=by
   unfold Lo at h;split at h;·exact⟨_,_,_,at9⟩
   ·exact⟨_,_,_,at9⟩
   ·exact⟨_,_,_,at9⟩
   ·cases h
  obtain⟨a,b,z,sH⟩:=sH;simp only[gb,cK,sH];split;·rename_i e _;cases e
  ·exact LQ
 ·rename_i b args fb aD;have Ry:jf D F an args.toList:=by rw[aD]at H;simpa[Op.operands,Call.operands]using H
  unfold Y3 at h;split at h;·exact Ak aD rfl (alY aL ai aD h Ry hm k)
  ·exact Ak aD rfl (alI aL ai aD h Ry hm k)
  ·exact Ak aD rfl (alZ aL ai aD h Ry hm k)
  ·cases h
 ·cases h
end
def H5(Y:gH)(call:aq->List aq->bA->Option (aq×bA)):Prop:=∀ f l m v m',call f l m=some (v,m')->∀ (D:bR) (I:aH) (M:List aA) (u:Value) (us:List Value),aV D f u->bO D l us->dc Y D m I M -> (∃ g et cs,u=.func (.func g) et cs/\Spec Y.P g (et.toList++us++cs.toList) I M λr I' M'=>∃ bF,D.ext bF m.n/\aV bF v r/\dc Y bF m' I' M') \/ ∃ q,u=.func (.yield q) #[] #[]/\DA Y.P q us I M λr I' M'=>∃ bF,D.ext bF m.n/\aV bF v r/\dc Y bF m' I' M'
def vn(dst:Option Nat)(v:aq)(D:bR)(F c7:Fr):Prop:=(∀ d,dst=some d->gv D (c7 d) v)/\∀ (D:bR) t vh,dst≠some t->gv D (F t) vh->gv D (c7 t) vh
def vn.put{v:aq}{x:dx}(F:Fr)(h:gv D x v):vn dst v D F (put dst x F):=by
 constructor
 ·rintro d rfl;simpa[Go.V.put,gS]using h
 ·intro D t vh bz h;cases dst with
  |none=>exact h| some d=>have:t≠d:=λe=>bz (by rw[e]);simp only[Go.V.put,gS,hF this,cD];exact h
def Ac.v(h:Ac dst u F c7){v:aq}(ak:aV D v u):vn dst v D F c7:=⟨λd ai=>by rw[h.1 d ai];exact .val ak,h.2⟩
section
variable{X:cN}{G:GT}{pr:lV}{D:bR}{m m':bA}{F:Fr}{an:bk aq}{C:de}{I:aH}{M:List aA}{K:fz}{o:Oper}{v:aq}
def LR(X:cN)(G:GT)(pr:lV)(o:Oper)(an:bk aq)(m:bA)(v:aq)(m':bA):Prop:=m.n<=m'.n/\∀ (D:bR) (F:Fr) (C:de) (I:aH) (M:List aA) (K:fz),jf D F an o.op.operands.toList->dc (dV X G pr) D m I M -> (∀ bF c7 C' I' M',D.ext bF m.n->vn o.dst v bF F c7->dc (dV X G pr) bF m' I' M'->K c7 C' I' M')->gb X o F C I M K
def al6{op:Op}(aD:o.op=op)(ae:lj X.E op=0)(h:cK X op (dr F) C I M (λx=>K (put o.dst x F) C I M) (bC X o F C I M K)):gb X o F C I M K:=by
 obtain⟨dst,Cy,ty,pos,after,guard⟩:=o;simp only at aD;subst aD;cases Cy with
 |call c=>
  obtain⟨callee,args,fb⟩:=c;cases callee with
  |value f=>simp[lj]at ae| invoke r n=>exact h| builtin b=>exact h
 |alloc t=>simp[lj]at ae| box t x=>simp[lj]at ae| store t x y=>simp[lj]at ae| buildSlice t l ps=>simp[lj]at ae| makeSlice t l c=>simp[lj]at ae| _=>exact h
def Z7(aL:cU X.P X.E)(ai:∀ d,o.dst=some d->d<X.n){v:aq}(ae:lj X.E o.op=0)(h:vb X.P X.E G m.t o.op an=some v)(H:jf D F an o.op.operands.toList)(hm:dc (dV X G pr) D m I M)
  (k:∀ x,gv D x v->K (put o.dst x F) C I M):gb X o F C I M K:=by
 unfold vb at h;split at h
 ·rename_i t x aD;exact al3 ai aD h H k
 ·rename_i t x lo hi mx aD;exact al4 aD (al1 aL ai aD h H hm k)
 ·rename_i t x hi mx aD;exact al2 aL ai aD h H hm k
 ·exact al6 rfl ae (alq aL h H hm k)
def Rz{K:bk aq->Option R}{r:R}(h:pQ dst an v K=some r):∃ da,K da=some r/\(dst=none->da=an)/\∀ d,dst=some d->∀ t w,da.get t=some w->(t=d/\w=v)\/(t≠d/\an.get t=some w):=by
 unfold pQ at h;cases dst with
 |none=>exact⟨an,h,λ_=>rfl,λd ai=>qr⟩
 |some d=>
  have bd:(QH v λv=>an.nL (some v) d K)=some r:=h;rw[akz]at bd;obtain⟨da,aa,ad⟩:=bk.oR (some v) an d;rw[aa]at bd;refine⟨da,bd,(λe=>by cases e),λd' ai t w hw=>?_⟩;cases ai;rcases ad t w hw with⟨aK,ba⟩ | ⟨aK,ba⟩;·exact .inl ⟨aK,(oW ba).symm⟩
  ·exact .inr ⟨aK,ba⟩
def Z8(aL:cU X.P X.E)(kc:∀ d,d<X.n->X.gC.contains d=true)(ai:∀ d,o.dst=some d->d<X.n)(mN:H5 (dV X G pr) call){K:bk aq->bA->Option R}{r:R}
  (h:z0 (dV X G pr) call o an m K=some r):∃ v m' da,LR X G pr o an m v m'/\(pQ o.dst an v λan=>K an m')=some r/\K da m'=some r/\(o.dst=none->da=an)/\∀ d,o.dst=some d->∀ t w,da.get t=some w->(t=d/\w=v)\/(t≠d/\an.get t=some w):=by
 have fin:∀ {v:aq} {m':bA},LR X G pr o an m v m'->(pQ o.dst an v λan=>K an m')=some r->∃ v m' da,LR X G pr o an m v m'/\(pQ o.dst an v λan=>K an m')=some r/\K da m'=some r/\(o.dst=none->da=an)/\∀ d,o.dst=some d->∀ t w,da.get t=some w->(t=d/\w=v)\/(t≠d/\an.get t=some w):=fun {v m'} ao aI=>by obtain⟨da,aa,ad,aj⟩:=Rz aI;exact⟨v,m',da,ao,aI,aa,ad,aj⟩
 unfold z0 at h;split at h
 ·
  rename_i f args fb aD;unfold Y4 at h;obtain⟨al7,aE,h⟩:=ct h;obtain⟨l,az,h⟩:=ct h;obtain⟨⟨v,m'⟩,ao,h⟩:=ct h;obtain⟨aC,h⟩:=fV h;refine fin ⟨bJ aC,λD F C I M K sR hm ae=>?_⟩ h;rw[aD]at sR;obtain⟨u,aK,a'⟩:=sR.bG (x:=f) d8 aE;obtain⟨us,ba,bh⟩:=sR.mC (l:=args.toList) (by intro y aG;simp[Op.operands,Call.operands];exact .inr (by simpa using aG)) az;obtain⟨dst,Cy,ty,pos,after,guard⟩:=o;simp only at aD;subst aD;rcases mN _ _ _ _ _ ao D I M u us a' bh hm with⟨g,et,cs,rfl,av⟩ | ⟨q,rfl,av⟩
  ·simp only[gb,aK,ba];exact a8.whole _ av λr I' M' bE ab=>by obtain⟨bF,aa,ad,aj⟩:=ab;exact ae bF _ C I' M' aa (.put F (.val ad)) aj
  ·simp only[gb,aK,ba];refine bC.yield rfl ai aK ba ⟨M,[],_,am,av,λr I' M' bE ab=>?_⟩;obtain⟨bF,aa,ad,aj⟩:=ab;rw[dK];exact ae bF _ C I' M' aa (.put F (.val ad)) aj
 ·rename_i op ed;unfold Y8 at h;split at h
  ·rename_i la;unfold Y6 at h;obtain⟨v,ak,h⟩:=ct h;refine fin ⟨cc _,λD F C I M K sR hm ae=>?_⟩ h;exact Z7 aL ai la ak sR hm λx ab=>ae D _ C I M bR.oY (.put F ab) hm
  ·unfold Y5 at h;obtain⟨d,fj,h⟩:=ct h;obtain⟨⟨l,T,c,mk⟩,a7,h⟩:=ct h;obtain⟨m2,ad,aC,aj⟩:=Rh (Y:=dV X G pr) h;refine fin (v:=mk m.n) (m':=m2) ⟨Z,λD F C I M K sR hm ae=>?_⟩ (by rw[fj];exact ad);refine ZJ aL kc ai a7 (by rw[fj];rfl) sR λb vs u c7 C' bE aE ij cQ ao hu RA=>?_;have aJ:=aj (vs:=vs) [] (b:=b) (c:=c) hm aE ij (by simpa using cQ) ao;rw[dK]at aJ;exact ae _ c7 C' I _ bR.ES (RA.v (hu _ _ (bR.pS _ _ _))) aJ
  ·unfold Y7 at h;obtain⟨⟨v,m'⟩,ab,h⟩:=ct h;obtain⟨aC,h⟩:=fV h;refine fin ⟨bJ aC,λD F C I M K sR hm ae=>?_⟩ h;exact al5 aL ai ab sR hm λbF u M' aa ad aj=>ae bF _ C I M' aa (.put F (.val ad)) aj
end
def ls(X:cN)(G:GT)(pr:lV)(D0:bR)(n0:Nat)(an:bk aq)(m:bA)(a:Act)(w:World):Prop:=
 ∃ D F C I M,Rel X a w F C I M/\qE D F an/\dc (dV X G pr) D m I M/\D0.ext D n0/\n0<=m.n
section
variable{X:cN}{G:GT}{pr:lV}{D0:bR}{n0:Nat}{m m':bA}{an da:bk aq}{a:Act}{w:World}
def bR.Z9{n:Nat}(h:D.ext bF n)(bd:bF.ext LG hM)(aC:n<=hM):D.ext LG n:=λi hi=>by rw[bd i Z,h i hi]
def al8{ops:Array Oper}{o:Oper}(h:vd ops.toList o an=some b)(bw:∀ t,e9 β (F t) (a.tmps.getD t undef))(xx:qE D F an):Region.wanted o (yielded ops a.tmps)=b:=by
 unfold vd at h;split at h
 ·rename_i aw;cases h;simp[Region.wanted,aw]
 ·rename_i j c aw;split at h
  ·cases h
  ·rename_i d ah;have jA:(ops[j]?).bind (·.dst)=some d:=by rw[z5]at ah;simpa using ah
   have aG:=Gd jA a.tmps;split at h
   ·rename_i q aO;cases h;have av:=xx _ _ aO;have ak:a.tmps.getD d undef=.bool q:=by
     have aa:=bw d;rcases av with⟨u,e,hu⟩ | ⟨f',c2,e⟩;·rw[e]at aa;rw[aa,hu.bool]
     ·cases c2;rw[e]at aa;exact aa
    simp[Region.wanted,aw,aG,Dp ak]
   ·rename_i l aO;cases h;have av:=xx _ _ aO;obtain⟨u,e,hu⟩:=av.wP am;obtain⟨vs,_,rfl⟩:=hu.Q5;have aa:=bw d;rw[e]at aa;have v3:yielded ops a.tmps j=none:=by
     rw[aG];cases jB:a.tmps[d]? with
     |none=>rfl| some v=>simp only[e9,p8,jB,lF]at aa;subst aa;rfl
    simp[Region.wanted,aw,v3]
   ·cases h
def Z'{o:Oper}{K:bk aq->Option R}{r:R}(h:Cj o an K=some r):∃ da,K da=some r/\(o.dst=none->da=an)/\∀ d,o.dst=some d->∀ t w,da.get t=some w->(t=d/\w=.t [])\/(t≠d/\an.get t=some w):=by
 unfold Cj at h;cases ai:o.dst with
 |none=>rw[ai]at h;exact⟨an,h,λ_=>rfl,λd e=>by cases e⟩
 |some d=>
  rw[ai]at h;obtain⟨da,aa,ad⟩:=bk.oR (some (aq.t [])) an d;simp only[aa]at h;refine⟨da,h,(λe=>by cases e),λd' fO t w hw=>?_⟩;cases fO;rcases ad t w hw with⟨aK,ba⟩ | ⟨aK,ba⟩;·exact .inl ⟨aK,(oW ba).symm⟩
  ·exact .inr ⟨aK,ba⟩
def qE.step{v:aq}(h:qE D F an)(bn:D.le bF)(aI:vn dst v bF F c7)(aa:dst=none->da=an)(ad:∀ d,dst=some d->∀ t w,da.get t=some w->(t=d/\w=v)\/(t≠d/\an.get t=some w)):qE bF c7 da:=λt u au=>by
 cases ai:dst with
 |none=>rw[aa ai]at au;exact aI.2 bF t u (by rw[ai];simp) ((h t u au).mono bn)
 |some d=>
  rcases ad d ai t u au with⟨rfl,rfl⟩ | ⟨bz,aw⟩;·exact aI.1 _ ai
  ·exact aI.2 bF t u (by rw[ai];intro e;cases e;exact bz rfl) ((h t u aw).mono bn)
def RB(aL:cU X.P X.E)(kc:∀ d,d<X.n->X.gC.contains d=true){call:aq->List aq->bA->Option (aq×bA)}(mN:H5 (dV X G pr) call)(ops:Array Oper)(Q:Exit->Act->World->Prop)(kd:∀ a w,ls X G pr D0 n0 da m' a w->Q .normal a w):∀ (l:List Oper) (k:Nat),(∀ j,l[j]?=ops[k+j]?)->(∀ o∈l,∀ d,o.dst=some d->d<X.n)->∀ {an m a w},EC (dV X G pr) call ops.toList l an m=some (da,m') -> ls X G pr D0 n0 an m a w->wpOpsIn (g2 X) 0 X.P ops Q (List.range' k l.length) a w
 |[],k,_,_,an,m,a,w,h,av=>by have bd:some (an,m)=some (da,m'):=h;cases bd;exact kd _ _ av
 |o::bm,k,az,ai,an,m,a,w,h,av=>by
  have ax:ops[k]?=some o:=by simpa using(az 0).symm
  have pk:∀ j,bm[j]?=ops[k+1+j]?:=λj=>by have:=az (j+1);simpa[ux,JL 1 j]using this
  have fO:∀ o∈bm,∀ d,o.dst=some d->d<X.n:=λo aD=>ai o (by simp[aD]);have y3:=ai o am;have bd:bu (vd ops.toList o an) none (λw=>bX w (z0 (dV X G pr) call o an m λan m=>EC (dV X G pr) call ops.toList bm an m) (Cj o an λan=>EC (dV X G pr) call ops.toList bm an m))=some (da,m'):=h;obtain⟨b,ag,bd⟩:=ct bd;obtain⟨D,F,C,I,M,⟨β,aM⟩,bw,hm,ab,aC⟩:=av;have hw:=al8 ag aM.an bw;simp only[ep,NP,wpOpsIn,ax];rw[hw];cases b with
  |true=>have ad:z0 (dV X G pr) call o an m (λan m=>EC (dV X G pr) call ops.toList bm an m)=some (da,m'):=bd;obtain⟨v,cW,fG,⟨H6,H7⟩,-,aj,a',bh⟩:=Z8 aL kc y3 mN ad;simp only[s7];refine s6 (λbN w'=>?_) (Dn aL y3 ⟨β,aM⟩ (H7 D F C I M (λc7 C' I' M'=>∃ bF,D.ext bF m.n/\qE bF c7 fG/\dc (dV X G pr) bF cW I' M') (bw.op _) hm λbF c7 C' I' M' aK ba cA=>⟨bF,aK,bw.step (hm.le aK) ba a' bh,cA⟩));rintro⟨c7,C',I',M',fB,bF,aK,ba,cA⟩;exact RB aL kc mN ops Q kd bm (k+1) pk fO aj ⟨bF,c7,C',I',M',fB,ba,cA,bR.Z9 ab aK aC,jU aC H6⟩
  |false=>have ad:Cj o an (λan=>EC (dV X G pr) call ops.toList bm an m)=some (da,m'):=bd;obtain⟨fG,aj,a',bh⟩:=Z' ad;simp only[lE,mB];refine⟨λ_ _=>trivial,RB aL kc mN ops Q kd bm (k+1) pk fO aj ⟨D,put o.dst (.val undef) F,C,I,M,⟨β,aM.put (x:=.val undef) y3 rfl⟩,bw.step (bR.le_refl D) (.put F (.val .undef)) a' bh,hm,ab,aC⟩⟩
end
def al9{X:cN}(a1:∀ j e,mH ops j e->e<j)(J:(Nat->Prop)->Act->World->Prop)(step:∀ (L:Nat->Prop) a w q o,J L a w->Bi ops L->(∀ i,L i->i<ops.length)->ops[q]?=some o->¬ L q->(∀ e,mH ops q e->L e) -> (Region.wanted o (yielded ops.toArray a.tmps)=true->o.wpIn (g2 X) 0 X.P a w (J λj=>L j\/j=q) Q)/\(Region.wanted o (yielded ops.toArray a.tmps)=false->J (λj=>L j\/j=q) (a.put o.dst undef) w))
  (fin:∀ a w,J (λi=>i<ops.length) a w->Q .normal a w):∀ (jo:Nat) (dC:Array Bool) (a:Act) (w:World),dC.size=ops.length->todo ops dC<=jo->Bi ops (λi=>dC.getD i false=true) ->
   J (λi=>dC.getD i false=true) a w->wpAnyIn (g2 X) 0 X.P .any ops.toArray Q jo dC a w:=by
 have fK:∀ (dC:Array Bool) (i:Nat),dC.getD i false=true->i<dC.size:=λdC i h=>by refine F2 λaC=>?_;simp[Array.getD,aC]at h
 have full:∀ (dC:Array Bool) a w,dC.size=ops.length->Region.ready .any ops.toArray dC=[]->J (λi=>dC.getD i false=true) a w->Q .normal a w:=λdC a w dk nq a4=>by
  have all:∀ i,i<ops.length->dC.getD i false=true:=λi=>by
   induction i using Nat.strongRecOn with
   |ind i aQ=>
    intro hi;refine F2 λaC=>?_;have aD:ops[i]?=some ops[i]:=dy hi;have:i∈Region.ready .any ops.toArray dC:=(mem_ready dk).2 ⟨_,aD,aC,λe he=>by
     have aa:=a1 i e he;exact aQ e aa Z⟩
    rw[nq]at this;cases this
  have e:(λi=>dC.getD i false=true)=λi=>i<ops.length:=by funext i;simp only[eq_iff_iff];exact⟨λh=>by have:=fK dC i h;omega,all i⟩
  rw[e]at a4;exact fin a w a4
 intro jo
 induction jo with
 |zero=>
  intro dC a w dk aE dp a4;have nq:Region.ready .any ops.toArray dC=[]:=by
   cases af:Region.ready .any ops.toArray dC with
   |nil=>rfl| cons i l=>obtain⟨o,aD,aC,_⟩:=(mem_ready dk).1 (by rw[af];simp:i∈Region.ready .any ops.toArray dC);have:=Kd (iP.1 aD).1 dk aC;omega
  exact⟨nq,full dC a w dk nq a4⟩
 |succ jo aQ=>
  intro dC a w dk aE dp a4;refine⟨λnq=>full dC a w dk nq a4,λq aO=>?_⟩;obtain⟨o,aD,aC,ai⟩:=(mem_ready dk).1 aO;have cI:=(iP.1 aD).1;have g4:=Vq (dC:=dC) (i:=q) Z;have next:∀ bN w',J (λj=>dC.getD j false=true\/j=q) bN w'->wpAnyIn (g2 X) 0 X.P .any ops.toArray Q jo (dC.setIfInBounds q true) bN w':=λbN w' h=>by
   refine aQ _ bN w' (by simpa using dk) ?_ ?_ (by rw[g4];exact h);·have:=Kd cI dk aC;omega
   ·rw[g4];rintro j e (ah | rfl) he
    ·exact .inl (dp j e ah he)
    ·exact .inl (ai e he)
  obtain⟨s1,s2⟩:=step _ a w q o a4 dp (λi hi=>by have:=fK dC i hi;omega) aD aC ai;have Gv:ops.toArray[q]?=some o:=by simpa using aD
  unfold wpOpIn;simp only[Gv];cases hw:Region.wanted o (yielded ops.toArray a.tmps)with
  |true=>
   simp only[s7];exact s6 next (s1 hw)
  |false=>simp only[lE,mB];exact⟨λ_ _=>trivial,next _ _ (s2 hw)⟩
def aaa{S:List bA}{lo hi:Nat}{p:bA->Bool}{m:bA}(h:EF S lo hi p=true)(aa:lo<=j)(ad:j<=hi)(ah:S[j]?=some m):p m=true:=by unfold EF at h;refine fN.1 h m ?_;refine r7 (i:=j-lo) ?_;rw[l5,b2 Z,oq,show lo+(j-lo)=j by omega];exact ah
def filter_le{p:α->Bool}:∀ {l:List α},(∀ q e,l[q]?=some e->p e=true->q<j)->(l.filter p).length<=j:=by
 intro l h;have aK:l.filter p=(l.take j).filter p:=by
  conv=>lhs;rw[<-px j l]
  rw[Ed];have:(l.drop j).filter p=[]:=by rw[List.filter_eq_nil_iff];intro a a7 aI;obtain⟨q,aO⟩:=KY a7;rw[oq]at aO;have:=h _ _ aO aI;omega
  rw[this,dK]
 rw[aK];refine jU (Kg _ _) ?_;simp;omega
def le_filter{p:α->Bool}{l:List α}(ah:j<=l.length)(h:∀ q e,q<j->l[q]?=some e->p e=true):j<=(l.filter p).length:=by
 have aK:(l.take j).filter p=l.take j:=by
  rw[List.filter_eq_self];intro a a7;obtain⟨q,aO⟩:=KY a7;rw[l5]at aO;split at aO;·exact h q a at9 aO
  ·cases aO
 have ba:l.filter p=(l.take j).filter p++(l.drop j).filter p:=by
  conv=>lhs;rw[<-px j l]
  rw[Ed]
 rw[ba,aK,cn,fT];omega
mutual
def aab{D:bR}:∀ {x y:aq} {u:Value},EE x y=true->aV D x u->aV D y u
 |x,y,u,h,ab=>by
  cases x<;>cases y<;>simp only[EE,lE,cC]at h
  case b.b=>
   have:=eq_of_beq h;subst this;exact ab
  case i.i=>
   obtain⟨aa,ad⟩:=h;have:=IntKind.Dj aa;subst this;rw[Cl,h3]at ad;subst ad;exact ab
  case s.s=>
   rw[EI,h3]at h;subst h;exact ab
  case pn.pn=>exact ab
  case p.p=>
   obtain⟨aa,ad⟩:=h;have:=ea aa;subst this;have:=ea ad;subst this;exact ab
  case g.g=>
   obtain⟨aa,ad⟩:=h;have:=ea aa;subst this;have:=ea ad;subst this;exact ab
  case sn.sn=>exact ab
  case sl.sl=>
   obtain⟨aa,ad,aj,aJ⟩:=h;have:=ea aa;subst this;have:=ea ad;subst this;have:=ea aj;subst this;have:=ea aJ;subst this;exact ab
  case sx.sx=>
   obtain⟨aa,ad,aj,aJ⟩:=h;have:=ea aa;subst this;have:=ea ad;subst this;have:=ea aj;subst this;have:=ea aJ;subst this;exact ab
  case gs.gs=>
   obtain⟨aa,ad,aj,aJ⟩:=h;have:=ea aa;subst this;have:=ea ad;subst this;have:=ea aj;subst this;have:=ea aJ;subst this;exact ab
  case mn.mn=>exact ab
  case m.m=>have:=ea h;subst this;exact ab
  case f.f=>
   obtain⟨aa,ad,aj⟩:=h;have:=ea aa;subst this;simp only[aV]at ab |-;obtain⟨vs,ws,a',bh,bW⟩:=ab;exact⟨vs,ws,EV ad a',EV aj bh,bW⟩
  case y.y=>have:=ea h;subst this;exact ab
  case fn.fn=>exact ab
  case ni.ni=>exact ab
  case t.t=>
   simp only[aV]at ab |-;obtain⟨vs,a',bh⟩:=ab;exact⟨vs,EV h a',bh⟩
  case a.a=>
   simp only[aV]at ab |-;obtain⟨vs,a',bh⟩:=ab;exact⟨vs,EV h a',bh⟩
def EV{D:bR}:∀ {x y:List aq} {us:List Value},wO x y=true->bO D x us->bO D y us
 |[],[],us,h,ab=>ab| [],_::_,us,h,ab=>by simp[wO]at h
 |_::_,[],us,h,ab=>by simp[wO]at h
 |x::l,y::m,us,h,ab=>by simp only[wO,cC]at h;obtain⟨u,us,a',bh,rfl⟩:=ab.kj;exact .cons (aab h.1 a') (EV h.2 bh)
end
def H8(dst:Option Nat)(an:bk aq)(v:aq)(da:bk aq):Prop:=(dst=none->da=an)/\∀ d,dst=some d->∀ t w,da.get t=some w->(t=d/\w=v)\/(t≠d/\an.get t=some w)
def LS(m m':bA)(l:List aq)(T:Nat):Prop:=m'.n=m.n+1/\(∀ id e,m'.t.get id=some e->id=m.n\/m.t.get id=some e)
def yr(m m':bA):Prop:=m.n<=m'.n/\∀ id e,id<m.n->m'.t.get id=some e->m.t.get id=some e
def yr.refl(m:bA):yr m m:=⟨cc _,λ_ _ _ h=>h⟩
def yr.trans{a b c:bA}(h:yr a b)(k:yr b c):yr a c:=⟨jU h.1 k.1,λid e hi he=>h.2 id e hi (k.2 id e (JJ hi h.1) he)⟩
def LS.grow{m m':bA}{l:List aq}{T:Nat}(h:LS m m' l T):yr m m':=⟨by rw[h.1];omega,λid e hi he=>by
 rcases h.2 id e he with aa | aa
 ·omega
 ·exact aa⟩
def ama{m:bA}{l:List aq}{T:Nat}{K:Nat->bA->Option R}{r:R}(h:vc m l T K=some r):∃ m',K m.n m'=some r/\LS m m' l T:=by unfold vc at h;obtain⟨cs,aa,ad⟩:=bk.ym l (.nil:bk aq) 0;rw[aa]at h;obtain⟨bi,aj,aJ⟩:=HZ h;exact⟨_,aJ,rfl,λid e hi=>(aj id e hi).imp (λq=>q.1) λq=>q.2⟩
def dc.grow{m m':bA}(h:dc Y D m I M)(aw:yr m m'):dc Y D m' I M where
 iL id e a aa ad:=h.iL id e a (aw.2 id e (h.jL _ _ ad) aa) ad
 inj id iM e c2 a bN aa wx ad n2 ag:=h.inj id iM e c2 a bN (aw.2 id e (h.jL _ _ ad) aa) (aw.2 iM c2 (h.jL _ _ n2) wx) ad n2 ag
 jL id a ad:=JJ (h.jL _ _ ad) aw.1
 qD:=h.qD
inductive lW(X:cN)(G:GT)(pr:lV)(ops:List Oper):List (Nat×Nat)->bk aq->bA->List (Nat×aq)->bk aq->bA->List bA->List qC->Prop
 |nil{an m}:lW X G pr ops [] an m [] an m [m] []| q {i o bm an m v da vs gZ gI S A} (aD:ops[i]?=some o) (ae:lj X.E o.op=0) (hw:vd ops o an=some true) (ak:vb X.P X.E G m.t o.op an=some v) (aI:H8 o.dst an v da) (t:lW X G pr ops bm da m vs gZ gI S A) : lW X G pr ops ((i,0)::bm) an m ((i,v)::vs) gZ gI S (bif qf o.op then .load i o an v::A else A)| a {i o d bm an m m' l T c mk da vs gZ gI S A} (aD:ops[i]?=some o) (ae:lj X.E o.op=1) (hw:vd ops o an=some true) (ai:o.dst=some d) (ak:Ci X.E o an=some (l,T,c,mk)) (aC:LS m m' l T) (aI:H8 o.dst an (mk m.n) da) (t:lW X G pr ops bm da m' vs gZ gI S A) : lW X G pr ops ((i,1)::bm) an m ((i,mk m.n)::vs) gZ gI S (.made i m.n l T::A)| e {i o bm an m m' v da vs gZ gI S A} (aD:ops[i]?=some o) (ae:lj X.E o.op=2) (hw:vd ops o an=some true) (ao:LR X G pr o an m v m') (aI:H8 o.dst an v da) (t:lW X G pr ops bm da m' vs gZ gI S A) : lW X G pr ops ((i,2)::bm) an m ((i,v)::vs) gZ gI (m::S) A| skip {i k o bm an m da vs gZ gI S A} (aD:ops[i]?=some o) (ae:lj X.E o.op=k) (hw:vd ops o an=some false) (aI:H8 o.dst an (.t []) da) (t:lW X G pr ops bm da m vs gZ gI S A) : lW X G pr ops ((i,k)::bm) an m ((i,.t [])::vs) gZ gI (bif Nat.beq k 2 then m::S else S) A
section
variable{X:cN}{G:GT}{pr:lV}{ops:List Oper}
def H9(aL:cU X.P X.E)(kc:∀ d,d<X.n->X.gC.contains d=true)(jm:∀ o∈ops,∀ d,o.dst=some d->d<X.n){call:aq->List aq->bA->Option (aq×bA)}(mN:H5 (dV X G pr) call):∀ (row:List (Nat×Nat)) {an:bk aq} {m:bA} {mr:List bA} {oa:List qC} {gZ:bk aq} {gI:bA} {kk:List bA} {nP:List qC},oQ (dV X G pr) call ops row an m mr oa=some (gZ,gI,kk,nP)->∃ vs S A,lW X G pr ops row an m vs gZ gI S A/\kk=S.reverse++mr/\(∀ h∈A,h∈nP)/\∀ h∈oa,h∈nP
 |[],an,m,mr,oa,gZ,gI,kk,nP,h=>by simp only[oQ,kr,Prod.mk.injEq]at h;obtain⟨rfl,rfl,rfl,rfl⟩:=h;exact⟨[],[m],[],.nil,am,am,λ_ h=>h⟩
 |(i,k)::bm,an,m,mr,oa,gZ,gI,kk,nP,h=>by
  simp only[oQ]at h;obtain⟨o,aD,h⟩:=ct h;obtain⟨w,hw,h⟩:=ct h;obtain⟨ae,h⟩:=fV h;rw[z5]at aD;have hA:lj X.E o.op=k:=ea ae;have y3:=jm o (r7 aD);cases w with
  |false=>
   have ad:Cj o an (λan=>oQ (dV X G pr) call ops bm an m (bX (Nat.beq k 2) (m::mr) mr) oa)=some (gZ,gI,kk,nP):=h;obtain⟨fG,aj,a',bh⟩:=Z' ad;obtain⟨vs,S,A,au,cy,dD,vo⟩:=H9 aL kc jm mN bm aj;refine⟨_,_,_,.skip aD hA hw ⟨a',bh⟩ au,?_,dD,vo⟩;rw[cy];cases Nat.beq k 2<;>simp[bX]
  |true=>
   have aa:bX (Nat.beq k 0) (bu (vb X.P X.E G m.t o.op an) none λv=>pQ o.dst an v λda=>oQ (dV X G pr) call ops bm da m mr (bX (qf o.op) (.load i o an v::oa) oa)) (bX (Nat.beq k 1) (bu o.dst none λd=>bu (Ci X.E o an) none λr=>vc m r.1 r.2.1 λid m=>pQ (some d) an (r.2.2.2 id) λan=>oQ (dV X G pr) call ops bm an m mr (.made i id r.1 r.2.1::oa)) (z0 (dV X G pr) call o an m λan m'=>oQ (dV X G pr) call ops bm an m' (m::mr) oa))=some (gZ,gI,kk,nP):=h;by_cases RC:k=0
   ·subst RC;have ad:(bu (vb X.P X.E G m.t o.op an) none λv=>pQ o.dst an v λda=>oQ (dV X G pr) call ops bm da m mr (bX (qf o.op) (.load i o an v::oa) oa))=some (gZ,gI,kk,nP):=aa;obtain⟨v,ak,ad⟩:=ct ad;obtain⟨fG,aj,a',bh⟩:=Rz ad;obtain⟨vs,S,A,au,cy,dD,vo⟩:=H9 aL kc jm mN bm aj;refine⟨_,_,_,.q aD hA hw ak ⟨a',bh⟩ au,cy,λy aG=>?_,λy aG=>vo y ?_⟩
    ·cases az:qf o.op with
     |false=>rw[az]at aG;exact dD y aG
     |true=>
      rw[az]at aG;rcases er.1 aG with rfl | aG;·refine vo _ ?_;rw[az];simp[bX]
      ·exact dD y aG
    ·cases qf o.op with
     |false=>exact aG| true=>exact nO _ aG
   rw[hF RC]at aa;by_cases eQ:k=1
   ·subst eQ;have ad:(bu o.dst none λd=>bu (Ci X.E o an) none λr=>vc m r.1 r.2.1 λid m=>pQ (some d) an (r.2.2.2 id) λan=>oQ (dV X G pr) call ops bm an m mr (.made i id r.1 r.2.1::oa))=some (gZ,gI,kk,nP):=aa;obtain⟨d,ai,ad⟩:=ct ad;obtain⟨⟨l,T,c,mk⟩,a7,ad⟩:=ct ad;obtain⟨m2,aj,aC⟩:=ama ad;have x4:pQ o.dst an (mk m.n) (λan=>oQ (dV X G pr) call ops bm an m2 mr (.made i m.n l T::oa))=some (gZ,gI,kk,nP):=by rw[ai];exact aj
    obtain⟨fG,aJ,a',bh⟩:=Rz x4;obtain⟨vs,S,A,au,cy,dD,vo⟩:=H9 aL kc jm mN bm aJ;refine⟨_,_,_,.a aD hA hw ai a7 aC ⟨a',bh⟩ au,cy,λy aG=>?_,λy aG=>vo y (nO _ aG)⟩;rcases er.1 aG with rfl | aG;·exact vo _ am
    ·exact dD y aG
   ·rw[hF eQ]at aa;have ad:z0 (dV X G pr) call o an m (λan m'=>oQ (dV X G pr) call ops bm an m' (m::mr) oa)=some (gZ,gI,kk,nP):=aa;obtain⟨v,cW,fG,H7,-,aj,a',bh⟩:=Z8 aL kc y3 mN ad;obtain⟨vs,S,A,au,cy,dD,vo⟩:=H9 aL kc jm mN bm aj;have eU:k=2:=by
     have:lj X.E o.op<=2:=by
      unfold lj;split<;>first | omega | (split<;>first | omega | (split<;>omega))
     rw[hA]at this;omega
    subst eU;exact⟨_,_,_,.e aD hA hw H7 ⟨a',bh⟩ au,by rw[cy];simp,dD,vo⟩
def lW.head{an gZ:bk aq}{m gI:bA}{vs:List (Nat×aq)}{S:List bA}{A:List qC}(h:lW X G pr ops row an m vs gZ gI S A):∃ m2 kk,S=m2::kk/\yr m m2:=by
 induction h with
 |nil=>exact⟨_,_,rfl,.refl _⟩| q _ _ _ _ _ _ aQ=>exact aQ| a _ _ _ _ _ aC _ _ aQ=>obtain⟨m2,kk,aa,ad⟩:=aQ;exact⟨m2,kk,aa,aC.grow.trans ad⟩
 |e _ _ _ _ _ _ _=>exact⟨_,_,rfl,.refl _⟩
 | @skip i k o bm an m da vs gZ gI S A _ _ _ _ _ aQ=>
  cases ae:Nat.beq k 2 with
  |true=>exact⟨_,_,rfl,.refl _⟩| false=>simpa using aQ
def lW.LU{an gZ:bk aq}{m gI:bA}{vs:List (Nat×aq)}{S:List bA}{A:List qC}(h:lW X G pr ops row an m vs gZ gI S A):m.n<=gI.n/\∀ i c l T,.made i c l T∈A->m.n<=c/\i∈row.map (·.1):=by
 induction h with
 |nil=>exact⟨cc _,λ_ _ _ _ h=>ci⟩
 | @q i o bm an m v da vs gZ gI S A _ _ _ _ _ _ aQ=>
  refine⟨aQ.1,λgQ c l T hm=>?_⟩;have u9:.made gQ c l T∈A:=by
   cases az:qf o.op with
   |false=>rw[az]at hm;exact hm
   |true=>
    rw[az]at hm;rcases er.1 hm with e | hm;·cases e
    ·exact hm
  exact⟨(aQ.2 gQ c l T u9).1,nO _ (aQ.2 gQ c l T u9).2⟩
 |a _ _ _ _ _ aC _ _ aQ=>
  refine⟨jU aC.grow.1 aQ.1,λgQ c l T hm=>?_⟩;rcases er.1 hm with e | hm;·cases e;exact⟨cc _,am⟩
  ·exact⟨jU aC.grow.1 (aQ.2 gQ c l T hm).1,nO _ (aQ.2 gQ c l T hm).2⟩
 |e _ _ _ ao _ _ aQ=>exact⟨jU ao.1 aQ.1,λgQ c l T hm=>⟨jU ao.1 (aQ.2 gQ c l T hm).1,nO _ (aQ.2 gQ c l T hm).2⟩⟩| skip _ _ _ _ _ aQ=>exact⟨aQ.1,λgQ c l T hm=>⟨(aQ.2 gQ c l T hm).1,nO _ (aQ.2 gQ c l T hm).2⟩⟩
def lW.split:∀ (a9:List (Nat×Nat)) {bm:List (Nat×Nat)} {an gZ:bk aq} {m gI:bA} {vs:List (Nat×aq)} {S:List bA} {A:List qC},lW X G pr ops (a9++bm) an m vs gZ gI S A -> ∃ wV yt fG cW vp yu wW,vs=wV++yt/\wV.map (·.1)=a9.map (·.1)/\S=vp++yu/\vp.length=(a9.filter λr=>Nat.beq r.2 2).length/\lW X G pr ops bm fG cW yt gZ gI yu wW/\(∀ h∈wW,h∈A)/\m.n<=cW.n /\ (∀ t w,fG.get t=some w->(∃ i,(i,w)∈wV/\iV ops i=some t)\/((∀ i∈a9.map (·.1),iV ops i≠some t)/\an.get t=some w)) /\ (∀ i c l T,.made i c l T∈A->.made i c l T∈wW\/c<cW.n)
 |[],bm,an,gZ,m,gI,vs,S,A,h=>⟨[],vs,an,m,[],S,A,rfl,rfl,rfl,rfl,h,λ_ h=>h,cc _,λt w hw=>.inr ⟨am,hw⟩,λ_ _ _ _ h=>.inl h⟩
 |(i,k)::a9,bm,an,gZ,m,gI,vs,S,A,h=>by
  have fin:∀ {o:Oper} {da:bk aq} {m':bA} {v:aq} {tc:List (Nat×aq)} {kk S:List bA} {nP A:List qC},ops[i]?=some o->H8 o.dst an v da->m.n<=m'.n->lW X G pr ops (a9++bm) da m' tc gZ gI kk nP -> (S=if Nat.beq k 2 then m::kk else kk)->(∀ h∈nP,h∈A)->(∀ i c l T,.made i c l T∈A->.made i c l T∈nP\/c<m'.n) ->
    ∃ wV yt fG cW vp yu wW,(i,v)::tc=wV++yt/\wV.map (·.1)=((i,k)::a9).map (·.1)/\S=vp++yu/\vp.length=(((i,k)::a9).filter λr=>Nat.beq r.2 2).length/\lW X G pr ops bm fG cW yt gZ gI yu wW/\(∀ h∈wW,h∈A)/\m.n<=cW.n /\ (∀ t w,fG.get t=some w->(∃ i,(i,w)∈wV/\iV ops i=some t)\/((∀ gQ∈((i,k)::a9).map (·.1),iV ops gQ≠some t)/\an.get t=some w)) /\
     (∀ i c l T,.made i c l T∈A->.made i c l T∈wW\/c<cW.n):=by
   intro o da m' v tc kk S nP A aD aI H6 au cy dD amb;obtain⟨wV,yt,fG,cW,vp,yu,wW,aK,ba,cA,ee,ny,m4,EW,H',wX⟩:=lW.split a9 au;refine⟨(i,v)::wV,yt,fG,cW,(if Nat.beq k 2 then m::vp else vp),yu,wW,by rw[aK];rfl,by simp[ba],?_,?_,ny,λh dg=>dD h (m4 h dg),jU H6 EW,λt w hw=>?_,λi c l T hm=>?_⟩
   ·rw[cy,cA];split<;>simp
   ·simp only[Co];split<;>simp[ee]
   ·rcases H' t w hw with⟨gQ,aa,ad⟩ | ⟨aa,ad⟩
    ·exact .inl ⟨gQ,nO _ aa,ad⟩
    ·have sp:iV ops i=o.dst:=by simp[iV,aD]
     cases ai:o.dst with
     |none=>
      rw[aI.1 ai]at ad;refine .inr ⟨λgQ cz=>?_,ad⟩;rcases er.1 cz with e | cz;·rw[show gQ=i from e,sp,ai];simp
      ·exact aa gQ cz
     |some d=>
      rcases aI.2 d ai t w ad with⟨rfl,rfl⟩ | ⟨bz,aj⟩;·exact .inl ⟨i,am,by rw[sp,ai]⟩
      ·refine .inr ⟨λgQ cz=>?_,aj⟩;rcases er.1 cz with e | cz
       ·rw[show gQ=i from e,sp,ai];exact λe=>bz (by cases e;rfl)
       ·exact aa gQ cz
   ·rcases amb i c l T hm with aa | aa
    ·exact wX i c l T aa
    ·exact .inr (JJ aa EW)
  cases h with
  |q aD ae hw ak aI t=>
   rename_i o v da tc nP;refine fin aD aI (cc _) t am (λh dg=>?_) λi c l T hm=>?_
   ·cases qf o.op with
    |false=>exact dg| true=>exact nO _ dg
   ·cases az:qf o.op with
    |false=>rw[az]at hm;exact .inl hm
    |true=>
     rw[az]at hm;rcases er.1 hm with e | hm;·cases e
     ·exact .inl hm
  |a aD ae hw ai ak aC aI t=>
   refine fin aD aI aC.grow.1 t am (λh dg=>nO _ dg) λi c l T hm=>?_;rcases er.1 hm with e | hm;·cases e;exact .inr (by rw[aC.1];omega)
   ·exact .inl hm
  |e aD ae hw ao aI t=>exact fin aD aI ao.1 t am (λ_ h=>h) λ_ _ _ _ h=>.inl h
  |skip aD ae hw aI t=>exact fin aD aI (cc _) t (by cases Nat.beq k 2<;>rfl) (λ_ h=>h) λ_ _ _ _ h=>.inl h
end
section
variable{ops:List Oper}
def amc{i k:Nat}{o:Oper}(aD:ops[i]?=some o)(h:Gr o k=true):∀ e,mH ops i e->k.testBit e=true:=by rintro e⟨o',lN,wg,wc,ag,rfl⟩;rw[aD]at wg;cases wg;have:=fN.1 h lN (by simpa using wc);rw[ag]at this;simpa using this
def LV:∀ {row:List (Nat×Nat)} {k:Nat},wN ops row k=true->∀ (a9:List (Nat×Nat)) (i c:Nat) (post:List (Nat×Nat)),row=a9++(i,c)::post -> (∃ o,ops[i]?=some o)/\k.testBit i=false/\i ∉ a9.map (·.1)/\∀ e,mH ops i e->k.testBit e=true\/e∈a9.map (·.1)
 |[],k,h,a9,i,c,post,e=>by simp at e
 |(i0,EX)::row,k,h,a9,i,c,post,e=>by
  simp only[wN,cC,xo]at h;obtain⟨aa,ad⟩:=h;split at ad
  ·rename_i o aD;rw[cC]at ad;cases a9 with
   |nil=>simp only[hI,zA,Prod.mk.injEq]at e;obtain⟨⟨rfl,rfl⟩,rfl⟩:=e;exact⟨⟨o,aD⟩,aa,am,λe he=>.inl (amc aD ad.1 e he)⟩
   |cons p a9=>
    simp only[pz,zA]at e;obtain⟨aK,ba⟩:=e;obtain⟨a',bh,bW,fu⟩:=LV ad.2 a9 i c post ba;have ag:∀ x,(k ||| 2^i0).testBit x=(k.testBit x||decide (x=i0)):=λx=>by rw[Nat.testBit_or,Nat.testBit_two_pow];congr 1;exact decide_eq_decide.2 eq_comm
    rw[ag,tk]at bh;refine⟨a',bh.1,?_,λe he=>?_⟩;·rw[<-aK];simp only[b0,er,not_or];exact⟨by simpa using bh.2,bW⟩
    ·rcases fu e he with h | h
     ·rw[ag,nj]at h;rcases h with h | h
      ·exact .inl h
      ·exact .inr (by rw[<-aK];simp at h;simp[h])
     ·exact .inr (by rw[b0];exact nO _ h)
  ·cases ad
def RD:∀ {row:List (Nat×Nat)} {k:Nat},wN ops row k=true->∀ i,i<ops.length->k.testBit i=true\/i∈row.map (·.1)
 |[],k,h,i,hi=>by
  simp only[wN]at h;have:=ea h;subst this
  left
  rw[Nat.testBit_two_pow_sub_one];simpa using hi
 |(i0,EX)::row,k,h,i,hi=>by
  simp only[wN,cC,xo]at h;obtain⟨aa,ad⟩:=h;split at ad
  ·rw[cC]at ad;rcases RD ad.2 i hi with h | h
   ·rw[Nat.testBit_or,Nat.testBit_two_pow,nj]at h;rcases h with h | h
    ·exact .inl h
    ·have:i0=i:=by simpa using h
     exact .inr (by simp[this])
   ·exact .inr (by rw[b0];exact nO _ h)
  ·cases ad
def amd(h:wN ops row 0=true):(row.map (·.1)).Nodup:=by
 have key:∀ {row:List (Nat×Nat)} {k:Nat},wN ops row k=true->(row.map (·.1)).Nodup:=by
  intro row
  induction row with
  |nil=>intro k _;exact A2
  |cons r row aQ=>
   intro k h;obtain⟨i0,EX⟩:=r;have bd:=h;simp only[wN,cC,xo]at h;obtain⟨aa,ad⟩:=h;split at ad;·rw[cC]at ad;rw[b0,lG];refine⟨λhm=>?_,aQ ad.2⟩;obtain⟨⟨x,c⟩,ab,Ia⟩:=c3.1 hm;obtain⟨a9,post,e⟩:=vf ab;have RE:x=i0:=Ia;subst RE;have:=(LV bd ((x,EX)::a9) x c post (by rw[e];rfl)).2.2.1;exact this am
   ·cases ad
 exact key h
def aac{α β:Type}:∀ {l:List (α×β)},(l.map (·.1)).Nodup->∀ {k:α} {a b:β},(k,a)∈l->(k,b)∈l->a=b
 |[],_,k,a,b,h,_=>by cases h
 |(RC,c)::l,aC,k,a,b,h,bd=>by
  rw[b0,lG]at aC;rcases er.1 h with e | h
  ·cases e;rcases er.1 bd with c2 | bd
   ·cases c2;rfl
   ·exact(aC.1 (c3.2 ⟨_,bd,rfl⟩)).elim
  ·rcases er.1 bd with c2 | bd
   ·cases c2;exact(aC.1 (c3.2 ⟨_,h,rfl⟩)).elim
   ·exact aac aC.2 h bd
end
section
variable{X:cN}{G:GT}{pr:lV}{D0:bR}{n0:Nat}{a:Act}{w:World}
def LW{o:Oper}{an:bk aq}(h:vd ops o an=some b)(bw:∀ t,e9 β (F t) (a.tmps.getD t undef))(H:∀ t∈looks ops o,∀ v,an.get t=some v->gv D (F t) v) :
  Region.wanted o (yielded ops.toArray a.tmps)=b:=by
 unfold vd at h;split at h
 ·rename_i aw;cases h;simp[Region.wanted,aw]
 ·rename_i j c aw;split at h
  ·cases h
  ·rename_i d ah;have jA:(ops[j]?).bind (·.dst)=some d:=by rw[z5]at ah;simpa using ah
   have ame:(ops.toArray[j]?).bind (·.dst)=some d:=by simpa using jA
   have aG:=Gd ame a.tmps;have mb:d∈looks ops o:=Og aw jA;split at h
   ·rename_i q aO;cases h;have av:=H _ mb _ aO;have ak:a.tmps.getD d undef=.bool q:=by
     have aa:=bw d;rcases av with⟨u,e,hu⟩ | ⟨f',c2,e⟩;·rw[e]at aa;rw[aa,hu.bool]
     ·cases c2;rw[e]at aa;exact aa
    simp[Region.wanted,aw,aG,Dp ak]
   ·rename_i l aO;cases h;have av:=H _ mb _ aO;obtain⟨u,e,hu⟩:=av.wP am;obtain⟨vs,_,rfl⟩:=hu.Q5;have aa:=bw d;rw[e]at aa;have v3:yielded ops.toArray a.tmps j=none:=by
     rw[aG];cases jB:a.tmps[d]? with
     |none=>rfl| some v=>simp only[e9,p8,jB,lF]at aa;subst aa;rfl
    simp[Region.wanted,aw,v3]
   ·cases h
def amf{o:Oper}{an:bk aq}(H:∀ t∈looks ops o,∀ v,an.get t=some v->gv D (F t) v):jf D F an o.op.operands.toList:=λx ab v ak=>by
 cases x with
 |tmp t=>exact H t (Oh (by simpa using ab)) v ak| const c=>exact(show qE D F .nil from λt v h=>ci).op [.const c] (.const c) am v ak| global g=>exact(show qE D F .nil from λt v h=>ci).op [.global g] (.global g) am v ak| func f=>exact(show qE D F .nil from λt v h=>ci).op [.func f] (.func f) am v ak
def amg{m m2:bk fF}{op:Op}{an:bk aq}(h:qf op=false):vb X.P X.E G m op an=vb X.P X.E G m2 op an:=by
 cases op with
 |load=>simp[qf]at h| slice t x lo hi mx=>cases mx<;>cases lo<;>cases hi<;>rfl
 |unOp u=>cases u<;>rfl
 |call c=>
  obtain⟨callee,args,fb⟩:=c;cases callee<;>rfl
 |_=>rfl
def EY(X:cN)(G:GT)(pr:lV)(D0:bR)(n0:Nat)(ops:List Oper)(es:List Nat)(an:bk aq)(vs:List (Nat×aq))(S:List bA)(A:List qC)(L:Nat->Prop)(a:Act)(w:World):Prop:=
 ∃ D F C I M j rN,Rel X a w F C I M/\(∀ q e,es[q]?=some e->(L e ↔ q<j))/\j<=es.length/\S[j]?=some rN/\dc (dV X G pr) D rN I M/\(∀ i v t,L i->(i,v)∈vs->iV ops i=some t->gv D (F t) v) /\ (∀ t v,(∀ i,L i->iV ops i≠some t)->an.get t=some v->gv D (F t) v)/\(∀ i c l T,qC.made i c l T∈A->¬ L i->D c=none)/\D0.ext D n0
def EY.an(dh:wb ops){L:Nat->Prop}{q:Nat}{o:Oper}(aO:ops[q]?=some o)(q9:¬ L q){vs:List (Nat×aq)}(EZ:(vs.map (·.1)).Nodup){v:aq}(ak:(q,v)∈vs){an:bk aq}(bn:D.le bF)(aI:vn o.dst v bF F c7)(dD:∀ i v t,L i->(i,v)∈vs->iV ops i=some t->gv D (F t) v)(amh:∀ t v,(∀ i,L i->iV ops i≠some t)->an.get t=some v->gv D (F t) v) :
  (∀ i v t,(L i\/i=q)->(i,v)∈vs->iV ops i=some t->gv bF (c7 t) v)/\(∀ t v,(∀ i,(L i\/i=q)->iV ops i≠some t)->an.get t=some v->gv bF (c7 t) v):=by
 have aad:iV ops q=o.dst:=by simp[iV,aO]
 constructor
 ·rintro i u t (hi | rfl) hm ai
  ·have bz:o.dst≠some t:=λe=>by obtain⟨gD,h7,sp⟩:=Gu ai;exact dh.Of i q gD o t (λc2=>q9 (c2 ▸ hi)) h7 aO sp e
   exact aI.2 bF t u bz ((dD i u t hi hm ai).mono bn)
  ·rw[aac EZ hm ak];rw[aad]at ai;exact aI.1 t ai
 ·intro t u ed aw;have bz:o.dst≠some t:=λe=>ed q (.inr rfl) (by rw[aad,e]);exact aI.2 bF t u bz ((amh t u (λi hi=>ed i (.inl hi)) aw).mono bn)
end
section
variable{X:cN}{G:GT}{pr:lV}{D0:bR}{n0:Nat}{a:Act}{w:World}
def RF{gT:List Nat}:∀ {es:List Nat},Lp gT es=true->∀ (p q:Nat) (x y:Nat),p<q->es[p]?=some x->es[q]?=some y->(gT.getD y 0).testBit x=true
 |[],_,p,q,x,y,_,ab,_=>by simp at ab
 |e::es,h,p,q,x,y,mJ,ab,aG=>by
  simp only[Lp,cC]at h;cases q with
  |zero=>omega
  |succ q=>
   have te:es[q]?=some y:=by simpa using aG
   cases p with
   |zero=>simp at ab;subst ab;exact fN.1 h.1 y (r7 te)| succ p=>exact RF h.2 p q x y Z (by simpa using ab) te
def ami:e∈yk E ops ↔ e<ops.length/\Ck E ops e=2:=by
 unfold yk;rw[nV,j9];constructor
 ·rintro⟨aa,ad⟩;exact⟨aa,ea ad⟩
 ·rintro⟨aa,ad⟩;exact⟨aa,by rw[ad];rfl⟩
def aae{i:Nat}{o:Oper}(h:ops[i]?=some o):Ck E ops i=lj E o.op:=by unfold Ck;rw[z5,h];rfl
def gv.same{x:dx}{u v:aq}(h:gv D x u)(av:EE u v=true):gv D x v:=by
 rcases h with⟨y,rfl,h⟩ | ⟨q,rfl,rfl⟩
 ·exact .val (aab av h)
 ·have:v=.b q:=by
   cases v<;>simp only[EE,lE]at av
   rw[eq_of_beq av]
  exact .inr ⟨q,this,rfl⟩
def amj(aL:cU X.P X.E)(kc:∀ d,d<X.n->X.gC.contains d=true)(mN:H5 (dV X G pr) call){id:Nat}{Ib:Array Oper}(ih:X.P.follows .mixedOrders=true)(aC:xC X.n Ib=true)
  {an gZ:bk aq} {m gI:bA} (h:QT (dV X G pr) call Ib.toList an m=some (gZ,gI)) (kd:∀ a w,ls X G pr D0 n0 gZ gI a w->Q .normal a w) (av:ls X G pr D0 n0 an m a w) :
  (Code.region id Ib true).wpIn (g2 X) 0 X.P Q a w:=by
 refine wpIn_region_any ih ?_;generalize xH:Ib.toList=ops at h;have amk:Ib=ops.toArray:=by apply lH;simpa using xH
 subst amk;have jm:∀ o∈ops,∀ d,o.dst=some d->d<X.n:=by simpa using JU aC
 unfold QT at h;obtain⟨E0,h⟩:=fV h;unfold Za at E0;simp only[cC]at E0;obtain⟨aml,mq,aaf,mZ⟩:=E0;have dh:wb ops:=Vi aml;have aag:((HK X.E ops).filter λr=>Nat.beq r.2 2).map (·.1)=yk X.E ops:=by simpa using mZ
 clear mZ;generalize ke:yk X.E ops=es at *;have RG:∀ e,e∈es ↔ e<ops.length/\Ck X.E ops e=2:=λe=>by rw[<-ke];exact ami
 generalize Ic:HK X.E ops=row at *;cases kS:oQ (dV X G pr) call ops row an m [] []with
 |none=>rw[kS]at h;cases h| some amm=>
 obtain⟨amn,amo,kk,nP⟩:=amm;rw[kS]at h;have bd:bX (nP.all (QS (dV X G pr) es (k5 ops) kk.reverse)) (some (amn,amo)) none=some (gZ,gI):=h;clear h;obtain⟨aah,bd⟩:=fV bd;cases bd;obtain⟨vs,S,A,LX,LY,amp,-⟩:=H9 aL kc jm mN row kS;rw[dK]at LY;subst LY;rw[Q']at aah;have aai:∀ y∈A,QS (dV X G pr) es (k5 ops) S y=true:=λy aG=>fN.1 aah y (amp y aG);have jn:(row.map (·.1)).Nodup:=amd mq;obtain⟨axi,axj,axk,axl,axm,axn,axo,jZ,nZ,qk,kz,aaj,axp,amq,amr,axq⟩:=lW.split row (bm:=[]) (by rw[dK];exact LX);have ams:(row.filter λr=>Nat.beq r.2 2).length=es.length:=by rw[<-aag,bB]
 cases aaj;rw[dK]at jZ;subst jZ;have EZ:(vs.map (·.1)).Nodup:=by rw[nZ];exact jn
 have amt:=LX.LU;have amu:∀ (a9:List (Nat×Nat)) (bm:List (Nat×Nat)),row=a9++bm->Bi ops (λi=>i∈a9.map (·.1)):=λa9 bm lX j e ah he=>by
  obtain⟨⟨x,c⟩,ab,Ia⟩:=c3.1 ah;have RE:x=j:=Ia;subst RE;obtain⟨DK,DL,aK⟩:=vf ab;rcases(LV mq DK x c (DL++bm) (by rw[lX,aK];simp)).2.2.2 e he with h | h;·simp at h
  ·show e∈a9.map (·.1);rw[aK,cR];exact c1.2 (.inl h)
 let J:=EY X G pr D0 n0 ops es an vs S A
 have key:=al9 (X:=X) (ops:=ops) (Q:=Q) dh.lt J ?step ?fin ops.length (Array.replicate ops.length false) a { w with drawn:=w.drawn+1 } am (by unfold todo;exact jU (Kg _ _) am) ?cl ?start
 case cl=>
  intro j e ah;exfalso;by_cases hi:j<ops.length<;>simp[p8,hi]at ah
 case start=>
  obtain⟨D,F,C,I,M,⟨β,aM⟩,bw,mo,ab,sv⟩:=av;obtain⟨m2,yu,LZ,aw⟩:=LX.head;have bZ:∀ i,¬ (Array.replicate ops.length false).getD i false=true:=λi=>by
   by_cases hi:i<ops.length<;>simp[p8,hi]
  refine⟨D,F,C,I,M,0,m2,⟨β,aM.world rfl⟩,λq e _=>⟨λh=>(bZ e h).elim,λh=>Z⟩,dQ _,by rw[LZ];rfl,mo.grow aw,λi v t hi=>(bZ i hi).elim,λt v _ aw=>bw t v aw,λi c l T rn _=>?_,ab⟩;have:=(amt.2 i c l T rn).1;cases Ie:D c with
  |none=>rfl| some b=>have:=mo.jL _ _ Ie;omega
 case fin=>
  rintro a w⟨D,F,C,I,M,j,rN,aM,wY,ah,vq,mo,Cz,CA,gJ,ab⟩;have gi:j=es.length:=by
   refine Nat.le_antisymm ah ?_;by_cases ax:es.length=0;·omega
   ·have a1:es.length-1<es.length:=by omega
    have aa:=(wY (es.length-1) es[es.length-1] (dy a1)).1 ((RG _).1 (bK a1)).1;omega
  have amv:rN=gI:=by rw[gi,qk,lO Z,kz,ams]at vq;simpa using vq.symm
  subst amv;refine kd a w ⟨D,F,C,I,M,aM,λt v aw=>?_,mo,ab,?_⟩
  ·rcases amr t v aw with⟨i,aa,ad⟩ | ⟨aa,ad⟩
   ·obtain⟨gD,h7,_⟩:=Gu ad;exact Cz i v t (iP.1 h7).1 aa ad
   ·refine CA t v (λi hi=>?_) ad;rcases RD mq i hi with aj | aj
    ·simp at aj
    ·exact aa i aj
  ·obtain⟨bF,c7,C',I',M',_,_,_,_,sv⟩:=av;exact jU sv amq
 case step=>
  rintro L a w q o⟨D,F,C,I,M,j,rN,⟨β,aM⟩,wY,ah,vq,mo,Cz,CA,gJ,ab⟩dp Al aO q9 L0;have iH:q<ops.length:=(iP.1 aO).1;have uF:=jm o (r7 aO);obtain⟨⟨f',k⟩,amw,RH⟩:=c3.1 ((RD mq q iH).resolve_left am);have amx:f'=q:=RH;subst amx;obtain⟨a9,post,di⟩:=vf amw;obtain⟨-,-,aak,amy⟩:=LV mq a9 f' k post di;have amz:∀ e,mH ops f' e->e∈a9.map (·.1):=λe he=>(amy e he).resolve_left am;have RI:=amu a9 ((f',k)::post) di;have aal:=LX;rw[di]at aal;obtain⟨wV,yt,fG,cW,vp,yu,wW,aK,ba,cA,ee,ny,m4,EW,H',wX⟩:=lW.split a9 aal;have axr:=ny.LU;have H:∀ t∈looks ops o,∀ v,fG.get t=some v->gv D (F t) v:=λt au v ak=>by
   rcases H' t v ak with⟨i,aa,ad⟩ | ⟨aa,ad⟩
   ·obtain⟨gD,h7,sp⟩:=Gu ad;have aam:i∈a9.map (·.1):=by rw[<-ba];exact c3.2 ⟨_,aa,rfl⟩
    have bz:i≠f':=λe=>aak (e ▸ aam);rcases dh.ord i f' gD o t bz h7 aO sp au with ag | ag;·exact Cz i v t (ag.mem dp L0) (by rw[aK];exact c1.2 (.inl aa)) ad
    ·exact(aak (ag.mem RI λe he=>RI i e aam he)).elim
   ·refine CA t v (λi hi kB=>?_) ad;obtain⟨gD,h7,sp⟩:=Gu kB;have bz:i≠f':=λe=>q9 (e ▸ hi);rcases dh.ord i f' gD o t bz h7 aO sp au with ag | ag
    ·exact aa i (ag.mem RI amz) kB
    ·exact q9 (ag.mem dp λe he=>dp i e hi he)
  have sR:jf D F fG o.op.operands.toList:=amf H;have fg:ED es (k5 ops) f'<=j:=filter_le λp e aI ag=>by exact(wY p e aI).1 ((y8 ag).mem dp L0)
  have gB:j<=lk es (k5 ops) f':=le_filter ah λp e aI RJ=>by
   cases ag:((k5 ops).getD e 0).testBit f' with
   |false=>rfl| true=>have CB:L e:=(wY p e RJ).2 aI;exact(q9 ((y8 ag).mem dp λd ai=>dp e d CB ai)).elim
  have aan:lj X.E o.op≠2->∀ p e,es[p]?=some e->((L e\/e=f') ↔ p<j):=λae p e aI=>by
   have bz:e≠f':=λhe=>ae (by
    have:=((RG e).1 (r7 aI)).2;rw[he,aae aO]at this;exact this)
   exact⟨λdg=>(wY p e aI).1 (dg.resolve_right bz),λdg=>.inl ((wY p e aI).2 dg)⟩
  have RK:lj X.E o.op=2->es[j]?=some f'/\j+1<=es.length/\∀ p e,es[p]?=some e->((L e\/e=f') ↔ p<j+1):=λae=>by
   have RH:f'∈es:=(RG f').2 ⟨iH,by rw[aae aO];exact ae⟩;obtain⟨Am,gx⟩:=KY RH;have axs:=(iP.1 gx).1;have aa:¬ Am<j:=λdg=>q9 ((wY Am f' gx).2 dg);have ad:¬ j<Am:=λdg=>by
    have gi:j<es.length:=by omega
    have RL:=RF aaf j Am es[j] f' dg (dy gi) gx;have:=(wY j es[j] (dy gi)).1 ((y8 RL).mem dp L0);omega
   have aj:Am=j:=by omega
   subst aj;refine⟨gx,Z,λp e aI=>⟨λdg=>?_,λdg=>?_⟩⟩
   ·rcases dg with dg | rfl
    ·have:=(wY p e aI).1 dg;omega
    ·refine F2 λaC=>?_;have RL:=RF aaf Am p e e Z gx aI;exact q9 ((y8 RL).mem dp L0)
   ·by_cases sk:p<Am
    ·exact .inl ((wY p e aI).2 sk)
    ·have:p=Am:=by omega
     subst this;rw[gx]at aI;exact .inr (oW aI).symm
  have plain:∀ {v:aq} {c7:Fr} {C':de} {bN:Act} {w':World},(f',v)∈vs->lj X.E o.op≠2->(∀ l T c,qC.made f' c l T ∉ A\/True)->Rel X bN w' c7 C' I M->vn o.dst v D F c7->J (λj=>L j\/j=f') bN w':=fun {v c7 C' bN w'} ak ae _ rc aI=>by obtain⟨f1,f2⟩:=EY.an dh aO q9 EZ ak (bR.le_refl D) aI Cz CA;exact⟨D,c7,C',I,M,j,rN,rc,aan ae,ah,vq,mo,f1,f2,λi c l T hm ed=>gJ i c l T hm λhi=>ed (.inl hi),ab⟩
  have If:∀ {v:aq} {bm:List (Nat×aq)},yt=(f',v)::bm->(f',v)∈vs:=fun {v bm} he=>by rw[aK,he];exact c1.2 (.inr am)
  have amA:n0<=cW.n:=by obtain⟨bF,c7,C',I',M',_,_,_,_,sv⟩:=av;exact jU sv EW
  have aao:∀ {k:Nat},k=2->row=a9++(f',k)::post->lj X.E o.op=2->vp.length=j:=fun {k} eU amB ae=>by
   obtain⟨RM,gi,_⟩:=RK ae;have amC:es=(a9.filter λr=>Nat.beq r.2 2).map (·.1)++f'::((post.filter λr=>Nat.beq r.2 2).map (·.1)):=by rw[<-aag,amB,Ed,cR,Co];subst eU;simp
   have b':es.Nodup:=by rw[<-ke];exact EM.sublist zg
   have aa:es[vp.length]?=some f':=by rw[amC,lO (by rw[bB,ee];exact cc _),bB,ee,mh];rfl
   have uL:=(iP.1 aa).1;exact(List.getElem?_inj uL b').1 (by rw[aa,RM])
  cases ny with
  | @q i o' bm m3 je v da tc RN RO mr oa aD ae CC ak aI t=>
   have m5:o'=o:=oW (aD.symm.trans aO);subst m5;have hw:=LW CC aM.an H;refine⟨λ_=>?_,λaE=>ad'⟩;obtain⟨u,hu,amD⟩:∃ u,vb X.P X.E G rN.t o'.op fG=some u/\∀ x,gv D x u->gv D x v:=by
    cases az:qf o'.op with
    |false=>exact⟨v,by rw[amg az (m2:=cW.t)];exact ak,λ_ h=>h⟩
    |true=>
     have ka:qC.load f' o' fG v∈A:=m4 _ (by rw[az];simp);have aa:=aai _ ka;have ad:=aaa (show EF S (ED es (k5 ops) f') (lk es (k5 ops) f') (QQ (dV X G pr) o' fG v)=true from aa) fg gB vq;unfold QQ at ad;split at ad;·rename_i u hu;exact⟨u,hu,λx ab=>ab.same ad⟩
     ·cases ad
   refine s6 (λbN w'=>?_) (Dn aL uF ⟨β,aM⟩ (Z7 (K:=λc7 C' I' M'=>I'=I/\M'=M/\vn o'.dst v D F c7) aL uF ae hu sR mo λx ab=>⟨rfl,rfl,.put F (amD x ab)⟩));rintro⟨c7,C',I',M',fB,rfl,rfl,RA⟩;exact plain (If rfl) (by rw[ae];decide) (λ_ _ _=>.inr trivial) fB RA
  | @a i o' d bm m3 je m' l T c mk da tc RN RO mr oa aD ae CC ai ak amE aI t=>
   have m5:o'=o:=oW (aD.symm.trans aO);subst m5;have hw:=LW CC aM.an H;refine⟨λ_=>?_,λaE=>ad'⟩;have ka:qC.made f' cW.n l T∈A:=m4 _ am;have aa:=aai _ ka;have ad:=aaa (show EF S (ED es (k5 ops) f') (lk es (k5 ops) f') (QR cW.n l T)=true from aa) fg gB vq;unfold QR at ad;rw[cC]at ad;obtain⟨E1,ad⟩:=ad;have amF:cW.n<rN.n:=bJ E1;split at ad
   ·rename_i cs l8 fK qc;simp only[cC]at ad;obtain⟨a6,Ad,ad⟩:=ad;have Gb:=ea a6;subst Gb;have Z0:=ea Ad;subst Z0;split at ad
    ·rename_i eF pk;obtain⟨aap,fP,fr,kK⟩:=bk.EH cs l.length 0 _ _ pk;have sB:aap=eF:=oW kK;subst sB;have Ie:D cW.n=none:=gJ f' cW.n l l8 ka q9;refine s6 (λbN w'=>?_) (Dn aL uF ⟨β,aM⟩ (ZJ (K:=λc7 C' I' M'=>∃ b us u,I'=I/\M'=⟨b,.cells us.toArray l8 (0,0)⟩::M/\I b=none/\(∀ x∈M,x.num≠b)/\bO D l us/\(∀ i,X.E l8=some i->us.length=c*i.size)/\c<=maxLen /\ (∀ (bF:bR) id,bF id=some ⟨b,0,c⟩->aV bF (mk id) u)/\Ac o'.dst u F c7) aL kc uF ak (by rw[ai];rfl) sR λb us u c7 C' a' bh bW fu k9 KQ RP=>⟨b,us,u,rfl,rfl,a',bh,bW,fu,k9,KQ,RP⟩));rintro⟨c7,C',I',M',fB,b,us,u,rfl,rfl,a',bh,bW,fu,k9,KQ,RP⟩;have bn:D.le (D.set cW.n ⟨b,0,c⟩):=bR.Ab _ Ie;have CD:vn o'.dst (mk cW.n) (D.set cW.n ⟨b,0,c⟩) F c7:=RP.v (KQ _ _ (bR.pS _ _ _));obtain⟨f1,f2⟩:=EY.an dh aO q9 EZ (If rfl) bn CD Cz CA;have sA:=EV ad bW;have g4:∀ id,id≠cW.n->(D.set cW.n ⟨b,0,c⟩) id=D id:=λid j5=>by unfold bR.set;rw[bS j5]
     have H4:∀ id e ik,rN.t.get id=some e->D id=some ik->ik.b≠b:=λid e ik hi ha Cx=>by obtain⟨x,Cs,An⟩:=mo.ar hi ha;exact bh x Cs (An.trans Cx)
     refine⟨D.set cW.n ⟨b,0,c⟩,c7,C',I',_,j,rN,fB,aan (by rw[ae];decide),ah,vq,?_,f1,f2,?_,λi hi=>?_⟩
     ·refine⟨λid e ik hi ha=>?_,λid iM e c2 b1 bH hi cz aa ad Cx=>?_,λid ik ha=>?_,mo.qD⟩
      ·by_cases j5:id=cW.n
       ·subst j5;rw[bR.pS]at ha;cases ha;rw[qc]at hi;cases hi;refine .cells us.toArray rfl am (by simp[bW.len]) (λi v hi ak=>?_) (λi hi=>by simpa using fu i hi) k9;have k2:aap[i]?=some v:=by have:=fr i hi;rw[dn,ak]at this;exact this.symm
        obtain⟨x,Cs,An⟩:=sA.get k2;exact⟨x,by simpa using Cs,An.mono bn⟩
       ·rw[g4 id j5]at ha;exact(mo.iL id e ik hi ha).mono bn λx ab _=>nO _ ab
      ·by_cases j5:id=cW.n
       ·by_cases Ig:iM=cW.n
        ·rw[j5,Ig]
        ·rw[g4 iM Ig]at ad;rw[j5,bR.pS]at aa;cases aa;exact(H4 iM c2 bH cz ad Cx.symm).elim
       ·rw[g4 id j5]at aa;by_cases Ig:iM=cW.n
        ·rw[Ig,bR.pS]at ad;cases ad;exact(H4 id e b1 hi aa Cx).elim
        ·rw[g4 iM Ig]at ad;exact mo.inj id iM e c2 b1 bH hi cz aa ad Cx
      ·by_cases j5:id=cW.n
       ·rw[j5];exact amF
       ·rw[g4 id j5]at ha;exact mo.jL _ _ ha
     ·intro i c' eF BN rn ed;have amG:c'≠cW.n:=λe=>by
       rcases wX i c' eF BN rn with h | h
       ·rcases er.1 h with h | h
        ·cases h;exact ed (.inr rfl)
        ·have:=(t.LU.2 i c' eF BN h).1;have:=amE.1;omega
       ·omega
      rw[g4 c' amG];exact gJ i c' eF BN rn λhi=>ed (.inl hi)
     ·rw[g4 i Z];exact ab i hi
    ·cases ad
   ·cases ad
  | @e i o' bm m3 je m' v da tc RN RO mr oa aD ae CC H7 aI t=>
   have m5:o'=o:=oW (aD.symm.trans aO);subst m5;have hw:=LW CC aM.an H;refine⟨λ_=>?_,λaE=>ad'⟩;obtain⟨RM,gi,RQ⟩:=RK ae;have Ao:=aao rfl di ae;have RR:rN=cW:=by rw[cA,lO Z,Ao,mh]at vq;simpa using vq.symm
   subst RR;obtain⟨m2,amH,E2,RS⟩:=t.head;refine s6 (λbN w'=>?_) (Dn aL uF ⟨β,aM⟩ (H7.2 D F C I M (λc7 C' I' M'=>∃ bF,D.ext bF rN.n/\vn o'.dst v bF F c7/\dc (dV X G pr) bF m' I' M') sR mo λbF c7 C' I' M' a' bh bW=>⟨bF,a',bh,bW⟩));rintro⟨c7,C',I',M',fB,bF,a',bh,bW⟩;have bn:=mo.le a';obtain⟨f1,f2⟩:=EY.an dh aO q9 EZ (If rfl) bn bh Cz CA;refine⟨bF,c7,C',I',M',j+1,m2,fB,RQ,gi,?_,bW.grow RS,f1,f2,λi c l T rn ed=>?_,bR.Z9 ab a' amA⟩;·rw[cA,lO Z,Ao,show j+1-j=0+1 by omega,F3,E2];rfl
   ·rcases wX i c l T rn with h | h
    ·have:=(t.LU.2 i c l T h).1;cases Ie:bF c with
     |none=>rfl| some b=>have:=bW.jL _ _ Ie;omega
    ·rw[a' c h];exact gJ i c l T rn λhi=>ed (.inl hi)
  | @skip i e4 o' bm m3 je da tc RN RO mr oa aD ae CC aI t=>
   have m5:o'=o:=oW (aD.symm.trans aO);subst m5;have hw:=LW CC aM.an H;refine⟨λaE=>ad',λ_=>?_⟩;have rc:Rel X (a.put o'.dst undef) w (put o'.dst (.val undef) F) C I M:=⟨β,aM.put (x:=.val undef) uF rfl⟩;have CD:vn o'.dst (.t []) D F (put o'.dst (.val undef) F):=.put F (.val .undef);by_cases eU:k=2
   ·subst eU;obtain⟨RM,gi,RQ⟩:=RK ae;have Ao:=aao rfl di ae;have RR:rN=cW:=by rw[cA,lO Z,Ao,mh]at vq;simpa using vq.symm
    subst RR;obtain⟨m2,amH,E2,RS⟩:=t.head;obtain⟨f1,f2⟩:=EY.an dh aO q9 EZ (If rfl) (bR.le_refl D) CD Cz CA;refine⟨D,_,C,I,M,j+1,m2,rc,RQ,gi,?_,mo.grow RS,f1,f2,λi c l T rn ed=>gJ i c l T rn λhi=>ed (.inl hi),ab⟩;rw[cA,lO Z,Ao,show j+1-j=0+1 by omega];show(rN::mr)[0+1]?=some m2;rw[F3,E2];rfl
   ·exact plain (If rfl) (by rw[ae];exact eU) (λ_ _ _=>.inr trivial) rc CD
 simpa using key
end
def CE{n:Nat}:∀ {c:Code},hW n c=true->codeOk n c=true
 | .seq x y,h=>by simp only[hW,codeOk,cC]at h |-;exact⟨CE h.1,CE h.2⟩
 | .block _ c,h=>by simp only[hW,codeOk]at h |-;exact CE h
 | .cond _ x y,h=>by simp only[hW,codeOk,cC]at h |-;exact⟨CE h.1,CE h.2⟩
 | .loop c,h=>by simp only[hW,codeOk]at h |-;exact CE h
 | .region _ ops _,h=>h| .scope c,h=>rfl| .rangeFunc ..,h=>rfl| .skip,h | .exit _,h | .label _,h | .goto _,h | .ret,h | .refuse _,h=>rfl
def RT{n:Nat}:∀ {c:Code} {l:Nat} {r:Code},hW n c=true->findLabel c l=some r->hW n r=true
 | .seq x y,l,r,h,az=>by
  simp only[hW,cC]at h;simp only[findLabel]at az;split at az;·rename_i bm af;cases az;simp only[hW,cC];exact⟨RT h.1 af,h.2⟩
  ·exact RT h.2 az
 | .label eF,l,r,h,az=>by
  simp only[findLabel]at az;split at az;·cases az;rfl
  ·cases az
 | .skip,_,_,_,az | .exit _,_,_,_,az | .goto _,_,_,_,az | .ret,_,_,_,az | .refuse _,_,_,_,az | .block _ _,_,_,_,az | .cond _ _ _,_,_,_,az | .loop _,_,_,_,az | .scope _,_,_,_,az | .region _ _ _,_,_,_,az | .rangeFunc _ _ _ _,_,_,_,az=>by simp[findLabel]at az
def wZ(P:Program):Prop:=∀ (g:Nat) (fn:Func) (c:Code),P.funcs[g]?=some fn->fn.body=some c->hW fn.ntmps c=true/\(fn.name == "runtime.NumGoroutine")=false
def amI(P:Program):Bool:=P.funcs.toList.all λfn=>match fn.body with
 |some c=>hW fn.ntmps c && !(fn.name == "runtime.NumGoroutine")
 |none=>true
def amJ(h:amI P=true):wZ P:=λg fn c aE ag=>by have aa:=fN.1 h fn (by rw[<-Array.mem_def];exact Array.mem_of_getElem? aE);simp only[ag,cC,xo]at aa;exact aa
def yv(Y:gH):Prop:=∀ g vs m v m',Y.pr g vs m=some (v,m')->∀ (D:bR) (I:aH) (M:List aA) (us:List Value),bO D vs us->dc Y D m I M->Spec Y.P g us I M λr I' M'=>∃ bF,D.ext bF m.n/\aV bF v r/\dc Y bF m' I' M'
def Ap:sj->Exit
 | .normal=>.normal| .exit id=>.exit id| .goto l=>.goto l| .ret=>.ret
def jM(Y:gH)(n B:Nat)(ax:World)(dA:aH)(foot:List Nat)(ro:Option Nat):cN:=⟨Y.P,Y.E,List.range n,n,B,ax,dA,foot,ro⟩
def jM.gC{Y:gH}{n B:Nat}{ax:World}{dA:aH}{foot:List Nat}{ro:Option Nat}:∀ d,d<(jM Y n B ax dA foot ro).n->(jM Y n B ax dA foot ro).gC.contains d=true:=λd ai=>by have fO:d<n:=ai;show(List.range n).contains d=true;simpa using fO
def CF(Y:gH)(f:Nat):Prop:=∀ gP n c an m ex da m',ll Y f gP n c an m=some (ex,da,m')->hW n c=true->∀ B ax dA foot ro D0 n0 a w,(gP=true->ro=none)->ls (jM Y n B ax dA foot ro) Y.G Y.pr D0 n0 an m a w -> c.wpIn (g2 (jM Y n B ax dA foot ro)) 0 Y.P (λe a w=>e=Ap ex/\ls (jM Y n B ax dA foot ro) Y.G Y.pr D0 n0 da m' a w) a w
def RU{α:Type}:∀ (n k:Nat),(bk.bare n:bk α).get k=none
 |0,k=>rfl
 |n+1,k=>by
  rw[bk.bare,bk.HN];cases Nat.beq k 0 with
  |true=>rfl
  |false=>
   cases Nat.beq (k%2) 1 with
   |true=>exact RU n _| false=>exact RU n _
section
variable{X:cN}{G:GT}{pr:lV}{D:bR}{m:bA}{F:Fr}{an:bk aq}{C:de}{I:aH}{M:List aA}
def RV(bw:qE D F an)(hm:dc (dV X G pr) D m I M):∀ {bb:List ResultVar} {vs:List aq} {K:List Value->Prop},z1 (dV X G pr) an m.t bb=some vs->(∀ us,bO D vs us->K us)->po X F C I M bb K
 |[],vs,K,h,ae=>by simp only[z1]at h;cases h;exact ae [] .nil
 | .tmp t::l,vs,K,h,ae=>by
  simp only[z1]at h;split at h;·rename_i v tc aa ad;cases h;obtain⟨u,aK,a'⟩:=(show gv D (dr F (.tmp t)) v from bw t v aa).dz;unfold po;rw[aK];exact RV bw hm ad λus fI=>ae _ (.cons a' fI)
  ·cases h
 | .cell t ty::l,vs,K,h,ae=>by
  simp only[z1]at h;split at h
  ·rename_i x i tc aa ad aj;split at h
   ·rename_i v ak;cases h;have yn:∀ q,x≠.b q:=λq e=>by subst e;cases ak
    obtain⟨u,aK,a'⟩:=gv.wP (bw t x aa:gv D (dr F (.tmp t)) x) yn;obtain⟨aR,eF,E3,rfl,bo,az,aI⟩:=wQ hm a' ak;have n2:X.E ty=some i:=ad;have eu:dr F (.tmp t)=.val (.pointer (some aR)):=aK;unfold po;rw[eu,n2];exact⟨E3,bo,RV bw hm aj λus fI=>ae _ (.cons (LB aI az) fI)⟩
   ·cases h
  ·cases h
end
def aaq(aL:cU Y.P Y.E)(bw:wZ Y.P)(lX:yv Y){f:Nat}(ao:CF Y f){args:List aq}{m:bA}{v:aq}{fn:Func}{c:Code}(aE:Y.P.funcs[g]?=some fn)(ag:fn.body=some c)(bn:args.length<=fn.ntmps){an da:bk aq}(xx:∀ t w,an.get t=some w->args[t]?=some w){ex:sj}{cW:bA}(hex:ex=.normal\/ex=.ret)(h:ll Y f true fn.ntmps c an m=some (ex,da,cW)){vs:List aq}(af:z1 Y da cW.t fn.results.toList=some vs)
  (ak:v=Zb vs) (hu:bO D args us) (hm:dc Y D m I M):vV Y.P g us I M λr I' M'=>∃ bF,D.ext bF m.n/\aV bF v r/\dc Y bF cW I' M':=by
 obtain⟨bf,nn⟩:=bw g fn c aE ag;refine N7 (List.range fn.ntmps) aL aE ag nn ?_ λB ax a w aM=>?_
 ·rw[cC];exact⟨CE bf,Eb (by rw[hu.len];exact bn)⟩
 ·have amK:qE D (xE us) an:=λt w hw=>by obtain⟨x,aa,ad⟩:=hu.get (xx t w hw);refine .inl ⟨x,?_,ad⟩;simp only[xE,aa]
  have ff:ls (jM Y fn.ntmps B ax I (M.map (·.num)) none) Y.G Y.pr D m.n an m a w:=⟨D,_,_,I,M,aM,amK,hm,bR.oY,cc _⟩;refine wpIn_mono (ao _ _ _ _ _ _ _ _ h bf B ax I (M.map (·.num)) none D m.n a w (λ_=>rfl) ff) ?_;rintro e bN w'⟨rfl,bF,c7,C',I',M',rc,mE,u9,ab,aC⟩;have G':∀ Cv,Cv=.normal\/Cv=.ret->v7 (jM Y fn.ntmps B ax I (M.map (·.num)) none) fn.results.toList (λr I' M'=>∃ bF,D.ext bF m.n/\aV bF v r/\dc Y bF cW I' M') Cv c7 C' I' M':=λCv he=>by
   have E4:=RV (X:=jM Y fn.ntmps B ax I (M.map (·.num)) none) (G:=Y.G) (pr:=Y.pr) (C:=C') mE u9 af (K:=λvs=>match vs with
    |[vh]=>v5 (M.map (·.num)) I' M' ((λr I' M'=>∃ bF,D.ext bF m.n/\aV bF v r/\dc Y bF cW I' M') vh)
    |vs=>v5 (M.map (·.num)) I' M' ((λr I' M'=>∃ bF,D.ext bF m.n/\aV bF v r/\dc Y bF cW I' M') (.tuple vs.toArray))) λE3 fI=>by
     clear af
     match vs,E3,fI,ak with
     |[],E3,fI,ak=>rw[fI.nM];refine⟨I',M',.refl,bF,ab,?_,u9⟩;rw[ak];exact .LA .nil| [v1],E3,fI,ak=>obtain⟨x,xs,aa,ad,rfl⟩:=fI.kj;rw[ad.nM];refine⟨I',M',.refl,bF,ab,?_,u9⟩;rw[ak];exact aa
     |v1::v2::vs,E3,fI,ak=>obtain⟨x,xs,aa,ad,rfl⟩:=fI.kj;obtain⟨y,ys,aj,aJ,rfl⟩:=ad.kj;refine⟨I',M',.refl,bF,ab,?_,u9⟩;rw[ak];exact .LA fI
   rcases he with rfl | rfl<;>exact E4
  rcases hex with rfl | rfl;·exact⟨c7,C',I',M',rc,G' _ (.inl rfl)⟩
  ·exact⟨c7,C',I',M',rc,G' _ (.inr rfl)⟩
end Go.V
