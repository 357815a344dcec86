/- Part 3 of what the proofs of this seat share: the executor, data in memory, walks.
-/
import Derived.Test.YtjaibbcbjfapaaaGreatDoorK2
import Derived.WideMake
import Derived.ChangeSame
import Derived.ChangeArms
import Derived.OpenShut
import Derived.Deep.DeepHandedRow
import Derived.Lib.LaidTab
import Derived.Test.YtjaibbcbjfapaaaGreatDoorRows
import Derived.Test.YtjaibbcbjfapaaaGreatDoorCards
import Derived.Test.YtjaibbcbjfapaaaGreatDoorTie
import Derived.WalkKit
import Derived.ProofKit
import Derived.WideKeyArgs
import Derived.Below
import Derived.JoinedOf
set_option linter.all false
set_option maxHeartbeats 16000000
set_option maxRecDepth 100000
namespace Go.V
open Go Go.Proofs
def dU:=@of_decide_eq_false
def e1:=@Option.some.inj
def e8:=@decide_eq_false
def dQ:=@Nat.zero_le
def hl:=@List.mem_flatMap
def gy:=@decide_eq_true
def gj:=@List.map_map
def xV:=@List.perm_append_comm_assoc
def pG:=@List.sum_append
def mh:=@Nat.sub_self
def uU:=@List.mem_of_mem_take
def tB:=@List.foldl_append
def zy:=@List.getElem_append_left
def zz:=@List.reverse_singleton
def wy:=@List.getElem_range
def mT:=@Nat.ble_eq
def BH:=@List.set_append_right
def xW:=@Nat.le_of_succ_le
def BI:=@Int.ofNat_eq_natCast
def DP:=@MapKept.run_getObj_map
def BJ:=@List.set_cons_zero
def DQ:=@MapKept.run_checkKey
def zA:=@List.cons.injEq
def DR:=@MapKept.run_findKey
def DS:=@List.not_mem_nil
def Kw:=@ByteArray.size_append
def O6:=@List.perm_append_singleton
def BK:=@List.sum_nil
def O7:=@List.eq_of_mem_replicate
def GV:=@List.all_append
def O8:=@MapKept.run_setObj_map
def Kx:=@List.all_eq_false
def DT:=@Nat.sub_zero
def Ky:=@beq_self_eq_true
def O9:=@List.replicate_succ
def O':=@List.flatten_cons
def Pa:=@List.flatMap_nil
def DU:=@or_false
variable{P:Program}{t:bs}{x y:Operand}{a:Option Addr}{other:Prop}{I I':aH}{i g c e size sz:Nat}{ay:List Int}{w z f:Bool}{F:Fr}{C:de}{M:List aA}{vs xs:List Value}{α:Type}{X:cN}{cS uV:dH}{l:List (ByteArray×Int)}{v:Value}{os:aT}{W kH:World}{rows:List (List Value)}
structure Kz(d:al):Prop where
 k:d.k<10
 t:d.t.size<=255
 GW:d.k=6->0<=d.lo/\d.lo<=99/\(d.hi=-1\/(d.lo<=d.hi/\d.hi<=99))
def Pb{d:al}{n:Int}(h:fits d n=true):Kz d:=by
 unfold fits at h;cases aa:decide (10<=d.k)with
 |true=>rw[aa]at h;cases h
 |false=>
  rw[aa]at h;simp only[cD]at h;have ae:d.k<10:=by simpa using aa
  cases ad:(decide (n<oE d.k.toNat)||(decide (0<=nw d.k.toNat)&&decide (nw d.k.toNat<n)))with
  |true=>rw[ad]at h;cases h
  |false=>
   rw[ad]at h;simp only[cD]at h;have eB:d.t=⟨#[]⟩->d.t.size<=255:=λe=>by rw[e];decide
   cases aj:decide (d.k=1)with
   |true=>rw[aj]at h;simp only[cF,cC,h3]at h;exact⟨ae,eB h.1,λe=>by simp at aj;omega⟩
   |false=>
    rw[aj]at h;simp only[cD]at h;cases aJ:decide (d.k=2)with
    |true=>rw[aJ]at h;simp only[cF,cC,xo,tk,ss]at h;exact⟨ae,Z,λe=>by simp at aJ;omega⟩
    |false=>
     rw[aJ]at h;simp only[cD]at h;cases bD:(decide (d.k=3)||decide (d.k=9))with
     |true=>rw[bD]at h;simp only[cF,cC]at h;refine⟨ae,?_,λe=>by simp at bD;omega⟩;have:=h.1;unfold nv at this;simp only[cC,h3]at this;omega
     |false=>
      rw[bD]at h;simp only[cD]at h;cases cG:decide (d.k=6)with
      |true=>
       rw[cG]at h;simp only[cF,cC,h3,xo,tk,ss,Bool.and_eq_false_iff]at h;refine⟨ae,eB h.2.2,λ_=>?_⟩;obtain⟨⟨a',bh,bW⟩,_⟩:=h;refine⟨Z,Z,?_⟩;rcases bW with bW | bW
       ·left
        simpa using bW
       ·right
        omega
      |false=>rw[cG]at h;simp only[cD,cC,h3]at h;exact⟨ae,eB h.2.1,λe=>by simp at cG;omega⟩
def GX:List Value:=[.int .i64 0,.int .i64 1,.string ⟨#[63]⟩,.int .i64 0,.int .i64 (-1),.string ⟨#[42]⟩,.int .i64 1,.int .i64 (-1),.string ⟨#[43]⟩]
def Pc(I:aH):Prop:=∃ T an,I 2=some (.cells GX.toArray T an)
def BL(lo:Nat)(hi:Int):List UInt8:=
 bif decide (hi=lo)then [123]++nz lo++[125]else
 bif decide (hi=-1)then [123]++nz lo++[44,125]else [123]++nz lo++[44]++nz hi.toNat++[125]
def tC(lo:Nat)(hi:Int):List UInt8:=
 bif decide ((0:Int)=lo)&&decide (1=hi)then [63]else
 bif decide ((0:Int)=lo)&&decide (-1=hi)then [42]else
 bif decide ((1:Int)=lo)&&decide (-1=hi)then [43]else BL lo hi
def air(lo:Nat)(hi:Int):(BL lo hi).length<=7:=by
 have aa:=GQ lo;have ad:=GQ hi.toNat;unfold BL;cases decide (hi=lo)<;>cases decide (hi=-1)<;>simp<;>omega
def ais(lo:Nat)(hi:Int):(tC lo hi).length<=7:=by
 have aa:=air lo hi;unfold tC;cases(decide ((0:Int)=lo)&&decide (1=hi))<;>cases(decide ((0:Int)=lo)&&decide (-1=hi))<;>cases(decide ((1:Int)=lo)&&decide (-1=hi))<;>simp<;>omega
def WA(n:Nat):(zt n).size<=2:=GQ n
def qt(lo hi:Int):al:=⟨6,0,0,0,0,⟨#[]⟩,lo,hi,none,0,0,[]⟩
def ait{lo:Nat}{hi:Int}(fg:lo<=99)(gB:hi=-1\/((lo:Int)<=hi/\hi<=99)):fits (qt lo hi) 1=true:=by
 have aK:oE 6=1:=by decide
 have ba:nw 6=1:=by decide
 rcases gB with rfl | ⟨aa,ad⟩
 ·simp[fits,qt,aK,ba,al.kC];exact⟨e8 Z,e8 Z⟩
 ·simp[fits,qt,aK,ba,al.kC];exact⟨e8 Z,e8 Z,.inr ⟨e8 Z,e8 Z⟩⟩
def aiu(a b:List UInt8):strOf a++strOf b=strOf (a++b):=by apply DJ;simp[strOf]
def fL.zB{t:Nat}{a b:List UInt8}(av:a.length+b.length<=9223372036854775807){V:Value->Prop}(h:V (.string (strOf (a++b)))):fL P .add t x y (.val (.string (strOf a))) (.val (.string (strOf b))) V other:=
 fL.concat (a:=strOf a) (b:=strOf b) av (by rw[aiu];exact h)
def aiv(ao:mR I)(aI:Pc I)(lo:Nat)(hi:Int)(fg:lo<=99)(gB:hi=-1\/((lo:Int)<=hi/\hi<=99)):Spec Tryz.prog 382 [.int .i64 lo,.int .i64 hi] I []
  λr I' M'=>r=.string (strOf (tC lo hi))/\I'=I/\M'=[]:=by
 refine bU [] a0 Tryz.func382 rfl rfl rfl ?_;intro B ax;have bf:(qt lo hi).ok I:=⟨by simp[qt],by simp[qt,ga],by simp[qt,ga],by simp[qt,ga],by simp[qt,ga],by show(0:Nat)<=_;omega,⟨an',an'⟩,⟨an',an'⟩,⟨rfl,⟨cc _,by simp[qt]⟩,.inl rfl⟩,by simp[qt]⟩;refine a8.mk [] [] _ (.refl _) (OR ao bf 1) ?_;rintro v I' M' -⟨rfl,rfl,rfl⟩;rw[ait fg gB];refine aZ.mk (λh=>ci) (λ_=>?_);have bo:c6 I' ([]++[]) ⟨2,0,none⟩ 9 GX:=by obtain⟨T,an,aI⟩:=aI;exact⟨rfl,_,T,an,.inl aI,rfl,rfl⟩
 refine aU.mk _ bo ?_;refine du.inv (ι:=Nat) (λi=>{ bp:=[(0,.val (.int .i64 lo)),(1,.val (.int .i64 hi)),(12,.val (.agg GX.toArray)),(13,.val (.int .i64 i))],cO:=I' }) (λi=>i<=3/\(1<=i->(decide ((0:Int)=lo)&&decide (1=hi))=false)/\(2<=i->(decide ((0:Int)=lo)&&decide (-1=hi))=false)/\(3<=i->(decide ((1:Int)=lo)&&decide (-1=hi))=false)) (λi=>3-i) ?_ ?_
 ·exact⟨0,⟨am,am,am,am⟩,.refl,dM,.nil⟩
 ·rintro i⟨iz,cW,m2,wz⟩
  match i,iz with
  |0,_=>
   refine aZ.mk (λ_=>?_) (λh=>d7);refine cw.mk 0 rfl bv ?_;have next:(decide ((0:Int)=lo)&&decide (1=hi))=false->(((0+1:Nat)<=3/\(1<=(0+1:Nat)->(decide ((0:Int)=lo)&&decide (1=hi))=false)/\(2<=(0+1:Nat)->(decide ((0:Int)=lo)&&decide (-1=hi))=false)/\(3<=(0+1:Nat)->(decide ((1:Int)=lo)&&decide (-1=hi))=false))/\3-(0+1)<3-0):=λh=>by
    refine⟨⟨am,λ_=>?_,λdg=>?_,λdg=>?_⟩,am⟩;·exact h
    ·simp at dg
    ·simp at dg
   refine b5.mk (λa'=>?_) (λa'=>?_)
   ·refine aZ.mk (λbh=>?_) (λbh=>?_)
    ·refine⟨_,_,.refl,?_,rfl,rfl⟩;have:tC lo hi=[63]:=by unfold tC;rw[a',bh];rfl
     rw[this];rfl
    ·refine be.mk 1 bv ?_;exact⟨1,next (by rw[a',bh];rfl),.refl,dM,.nil⟩
   ·refine be.mk 1 bv ?_;exact⟨1,next (by rw[a'];rfl),.refl,dM,.nil⟩
  |1,_=>
   refine aZ.mk (λ_=>?_) (λh=>d7);refine cw.mk 1 rfl bv ?_;have next:(decide ((0:Int)=lo)&&decide (-1=hi))=false->(((1+1:Nat)<=3/\(1<=(1+1:Nat)->(decide ((0:Int)=lo)&&decide (1=hi))=false)/\(2<=(1+1:Nat)->(decide ((0:Int)=lo)&&decide (-1=hi))=false)/\(3<=(1+1:Nat)->(decide ((1:Int)=lo)&&decide (-1=hi))=false))/\3-(1+1)<3-1):=λh=>by
    refine⟨⟨am,λ_=>?_,λdg=>?_,λdg=>?_⟩,am⟩;·exact cW bv
    ·exact h
    ·simp at dg
   refine b5.mk (λa'=>?_) (λa'=>?_)
   ·refine aZ.mk (λbh=>?_) (λbh=>?_)
    ·refine⟨_,_,.refl,?_,rfl,rfl⟩;have:tC lo hi=[42]:=by unfold tC;rw[cW bv,a',bh];rfl
     rw[this];rfl
    ·refine be.mk 2 bv ?_;exact⟨2,next (by rw[a',bh];rfl),.refl,dM,.nil⟩
   ·refine be.mk 2 bv ?_;exact⟨2,next (by rw[a'];rfl),.refl,dM,.nil⟩
  |2,_=>
   refine aZ.mk (λ_=>?_) (λh=>d7);refine cw.mk 2 rfl bv ?_;have next:(decide ((1:Int)=lo)&&decide (-1=hi))=false->(((2+1:Nat)<=3/\(1<=(2+1:Nat)->(decide ((0:Int)=lo)&&decide (1=hi))=false)/\(2<=(2+1:Nat)->(decide ((0:Int)=lo)&&decide (-1=hi))=false)/\(3<=(2+1:Nat)->(decide ((1:Int)=lo)&&decide (-1=hi))=false))/\3-(2+1)<3-2):=λh=>by
    refine⟨⟨am,λ_=>?_,λdg=>?_,λdg=>?_⟩,am⟩;·exact cW bv
    ·exact m2 bv
    ·exact h
   refine b5.mk (λa'=>?_) (λa'=>?_)
   ·refine aZ.mk (λbh=>?_) (λbh=>?_)
    ·refine⟨_,_,.refl,?_,rfl,rfl⟩;have:tC lo hi=[43]:=by unfold tC;rw[cW bv,m2 bv,a',bh];rfl
     rw[this];rfl
    ·refine be.mk 3 bv ?_;exact⟨3,next (by rw[a',bh];rfl),.refl,dM,.nil⟩
   ·refine be.mk 3 bv ?_;exact⟨3,next (by rw[a'];rfl),.refl,dM,.nil⟩
  |3,_=>
   refine aZ.mk (λh=>d7) (λ_=>?_);have aK:=cW bv;have ba:=m2 bv;have cA:=wz bv;have lL:tC lo hi=BL lo hi:=by unfold tC;rw[aK,ba,cA];rfl
   rw[lL];have sB:=WA lo;have A9:=WA hi.toNat;have sB:=GQ lo;refine aZ.mk (λh=>?_) (λh=>?_);·refine a8.mk [] [] _ (.refl _) (Ku lo Z) ?_;rintro v I' M' -⟨rfl,rfl,rfl⟩;refine fL.zB (a:=[123]) (b:=nz lo) d4 ?_;refine fL.zB (a:=[123]++nz lo) (b:=[125]) d4 ?_;refine⟨_,_,.refl,?_,rfl,rfl⟩;rw[BL,h];rfl
   ·refine aZ.mk (λk=>?_) (λk=>?_)
    ·refine a8.mk [] [] _ (.refl _) (Ku lo Z) ?_;rintro v I' M' -⟨rfl,rfl,rfl⟩;refine fL.zB (a:=[123]) (b:=nz lo) d4 ?_;refine fL.zB (a:=[123]++nz lo) (b:=[44,125]) d4 ?_;refine⟨_,_,.refl,?_,rfl,rfl⟩;rw[BL,h,k];rfl
    ·refine a8.mk [] [] _ (.refl _) (Ku lo Z) ?_;rintro v I' M' -⟨rfl,rfl,rfl⟩;have ae:hi≠-1:=by simpa using k
     obtain⟨aC,rfl⟩:=eh (show 0<=hi by omega);have A9:=GQ aC;refine fL.zB (a:=[123]) (b:=nz lo) d4 ?_;refine fL.zB (a:=[123]++nz lo) (b:=[44]) d4 ?_;refine a8.mk [] [] _ (.refl _) (Ku aC Z) ?_;rintro v I' M' -⟨rfl,rfl,rfl⟩;refine fL.zB (a:=[123]++nz lo++[44]) (b:=nz aC) d4 ?_;refine fL.zB (a:=[123]++nz lo++[44]++nz aC) (b:=[125]) d4 ?_;refine⟨_,_,.refl,?_,rfl,rfl⟩;rw[BL,h,k];rfl
def uW:List (List UInt8):=[[],[],[],[],[],[],[],[],[],[],[],[],[],[32],[],[],[32,47,32],[],[],[],[],[38],[],[],[33],[],[],[60],[],[62]]
def sC(j:Nat):List UInt8:=uW.getD j []
def GY(I:aH):Prop:=∃ T an,I 1=some (.cells (uW.map λl=>Value.string (strOf l)).toArray T an)
def GY.rd(h:GY I)(M:List aA){j:Nat}(ah:i+j<30):c6 I M ((Addr.add ⟨1,0,none⟩ i).add j) 1 [.string (strOf (sC (i+j)))]:=by
 obtain⟨T,an,h⟩:=h;rw[zw,eM _ rfl];refine⟨rfl,_,T,an,.inl h,?_,rfl⟩;have aa:i+j<(uW.map λl=>Value.string (strOf l)).length:=by simp[uW];omega
 have ad:i+j<uW.length:=by simp[uW];omega
 simp only[dn];rw[e2 aa,rf,qi];simp[sC,bT,ad]
def GZ(j:Nat):(sC j).length<=3:=by
 by_cases h:j<30
 ·have:∀ j:Fin 30,(sC j.val).length<=3:=by decide
  exact this ⟨j,h⟩
 ·have:uW.length<=j:=by simp[uW];omega
  simp[sC,bT,this]
def rs(ay:List Int)(d:al):List UInt8:=
 bif decide (d.k=0)||decide (d.k=2)then GS d.t else
 bif decide (d.k=1)then BG ay d.cf d.s1 d.s2 d.cH else
 bif decide (d.k=3)then d.t.data.toList else
 bif decide (d.k=9)then sC 27++d.t.data.toList++[58,32]else sC (d.k.toNat*3)
def pH(d:al):List UInt8:=bif decide (d.k=6)then tC d.lo.toNat d.hi else sC (d.k.toNat*3+2)
def aiw(s:ByteArray):strOf s.data.toList=s:=DJ (by simp[strOf])
def Pd(ao:mR I)(aI:Pc I)(KA:GY I){d:al}(ai:d.ok I)(aE:Kz d):Spec Tryz.prog 364 [d.val] I [] λr I' M'=>r=.string (strOf (pH d))/\I'=I/\M'=[]:=by
 refine bU [] a0 Tryz.func364 rfl rfl rfl ?_;intro B ax;refine aZ.mk (λh=>?_) (λh=>?_)
 ·obtain⟨a',bh,bW⟩:=aE.GW i5;have aK:d.lo=((d.lo.toNat:Nat):Int):=by omega
  have lM:=aiv ao aI d.lo.toNat d.hi Z Z;rw[<-aK]at lM;refine a8.mk [] [] _ (.refl _) lM ?_;rintro v I' M' -⟨rfl,rfl,rfl⟩;refine⟨_,_,.refl,?_,rfl,rfl⟩;simp only[pH,h];rfl
 ·have ae:=ai.k;have tz:=aE.k;refine cw.mk d.k.toNat Z Z ?_;refine aU.mk _ (KA.rd _ (by show d.k.toNat*3+2<30;omega)) ?_;refine⟨_,_,.refl,?_,rfl,rfl⟩;simp only[pH,h];rfl
def WB(BD:sy I ay)(KA:GY I){d:al}(ai:d.ok I)(aE:Kz d):Spec Tryz.prog 362 [d.val] I []
  λr I' M'=>r=.string (strOf (rs ay d))/\(∀ b o,I b=some o->I' b=some o)/\M'=[]:=by
 refine bU [] a0 Tryz.func362 rfl rfl rfl ?_;intro B ax;have ae:=ai.k;have tz:=aE.k;have au:=aE.t;have lit:(decide (d.k=0)||decide (d.k=2))=true->rs ay d=GS d.t:=λh=>by simp only[rs,h];rfl
 refine aZ.mk (λaa=>?_) (λaa=>?_)
 ·refine aZ.mk (λ_=>?_) (λh=>by rw[aa]at h;cases h);refine a8.mk [] [] _ (.refl _) (Wx d.t Z) ?_;rintro v I' M' -⟨rfl,rfl,rfl⟩;refine⟨_,_,.refl,?_,λ_ _ h=>h,rfl⟩;rw[lit (by rw[aa];rfl)]
 ·refine aZ.mk (λad=>?_) (λad=>?_)
  ·refine a8.mk [] [] _ (.refl _) (Wx d.t Z) ?_;rintro v I' M' -⟨rfl,rfl,rfl⟩;refine⟨_,_,.refl,?_,λ_ _ h=>h,rfl⟩;rw[lit (by rw[ad];simp)]
  ·refine aZ.mk (λaj=>?_) (λaj=>?_)
   ·refine a8.mk [] [] _ (.refl _) (aiq BD (a:=d.cf) (b:=d.s1) (c:=d.s2) (d:=d.cH) (λx ab=>by
     simp only[er,DS,DU]at ab;rcases ab with rfl | rfl | rfl | rfl;·exact ai.cf
     ·exact ai.s1
     ·exact ai.s2
     ·exact ai.cH)) ?_
    rintro v I' M' -⟨rfl,bE,rfl⟩;refine⟨_,_,.refl,?_,bE,rfl⟩;simp only[rs,aa,ad,aj];rfl
   ·refine aZ.mk (λaJ=>?_) (λaJ=>?_)
    ·refine⟨_,_,.refl,?_,λ_ _ h=>h,rfl⟩;simp only[rs,aa,ad,aj,aJ];rw[<-aiw d.t];rfl
    ·refine aZ.mk (λbD=>?_) (λbD=>?_)
     ·have aix:d.k=9:=by simpa using bD
      refine cY.draw a0 rfl rfl rfl ?_;refine cw.mk 9 aix bv ?_;refine aU.mk _ (KA.rd _ bv) ?_;have gw:(strOf (sC 27)).size=1:=by decide
      refine fL.concat (a:=strOf (sC 27)) (b:=d.t) Z ?_;refine fL.concat (a:=strOf (sC 27)++d.t) (b:=strOf [58,32]) (by rw[Kw];show _+2<=_;omega) ?_;refine⟨_,_,.refl,?_,λ_ _ h=>h,rfl⟩;simp only[rs,aa,ad,aj,aJ,bD];refine congrArg Value.string (DJ ?_);simp[strOf]
     ·refine cw.mk d.k.toNat Z Z ?_;refine aU.mk _ (KA.rd _ (by show d.k.toNat*3+0<30;omega)) ?_;refine⟨_,_,.refl,?_,λ_ _ h=>h,rfl⟩;simp only[rs,aa,ad,aj,aJ,bD];rfl
def iq(ns:List al)(k:Int):Int:=(ns.map (·.k)).getD k.toNat 0
def paren(w:Bool)(s:List UInt8):List UInt8:=(bif w then [40]else [])++(s++(bif w then [41]else []))
def uX(sep:List UInt8)(f:Int->List UInt8):Bool->List Int->List UInt8
 |_,[]=>[]| b,k::ks=>(bif b then sep else [])++(f k++uX sep f true ks)
def DV(d:al):List UInt8:=sC (d.k.toNat*3+1)
def DW(ay:List Int)(ns:List al)(d:al)(g:Int->List UInt8):List UInt8:=
 rs ay d++(uX (DV d) (λk=>paren (ht d.k (iq ns k)) (g k)) false d.ap++pH d)
def kI(ay:List Int)(ns:List al):Int->List UInt8:=mf [] (DW ay ns) ns
def nE(ay:List Int)(t:bs):List UInt8:=bif right t then kI ay t.ns t.bx else []
def WC{sep:List UInt8}{f g:Int->List UInt8}:∀ {ks:List Int} {b:Bool},(∀ k∈ks,f k=g k)->uX sep f b ks=uX sep g b ks
 |[],b,_=>rfl| k::ks,b,h=>by unfold uX;rw[h k am,WC λx ab=>h x f9]
def WD(af:right t=true){j:Nat}(ah:j<t.ns.length):kI ay t.ns j=DW ay t.ns t.ns[j] (kI ay t.ns):=by refine DF (λd g ei h=>?_) af ah;unfold DW;rw[WC λk ae=>by rw[h k ae]]
def aiy(w:Bool)(s:List UInt8):(paren w s).length<=s.length+2:=by cases w<;>simp[paren]
def WE{sep:List UInt8}{f:Int->List UInt8}(av:sep.length<=3){g:Int->Nat}(aE:∀ k,(f k).length+3<=g k):∀ {ks:List Int} {b:Bool},(uX sep f b ks).length<=gO g ks
 |[],b=>by simp[uX,gO]
 |k::ks,b=>by
  have aa:=WE av aE (ks:=ks) (b:=true);have ad:=aE k;unfold uX;simp only[cn,gO,b0,hr]at aa |-;cases b<;>simp<;>omega
def Pe(ay:List Int){d:al}(aE:Kz d):(rs ay d).length<=2400:=by
 have aa:(GS d.t).length<=2+4*d.t.size:=by have:=GU (oH · BF) 4 (λc=>GO c BF) d.t.data.toList;have ad:d.t.data.toList.length=d.t.size:=rfl;simp only[GS,cn,ep,hj];omega
 have ad:=aip ay d.cf d.s1 d.s2 d.cH;have aj:=aE.t;have aJ:=GZ 27;have bD:=GZ (d.k.toNat*3);have cG:d.t.data.toList.length=d.t.size:=rfl;unfold rs;cases(decide (d.k=0)||decide (d.k=2))<;>cases decide (d.k=1)<;>cases decide (d.k=3)<;>cases decide (d.k=9)<;>simp only[cF,cD,cn,ep,hj]<;>omega
def KB(d:al):(pH d).length<=7:=by
 have aa:=ais d.lo.toNat d.hi;have ad:=GZ (d.k.toNat*3+2);unfold pH;cases decide (d.k=6)<;>simp only[cF,cD]<;>omega
def KD{α:Type}(c:Nat):∀ l:List α,(l.map λ_=>c).sum=c*l.length
 |[]=>by simp
 |x::l=>by rw[b0,hr,KD c l,ep,Nat.mul_add];omega
def WG(af:right t=true):(kI ay t.ns t.bx).length+5<=2412*t.ns.length:=by
 have h:=OY af (g:=λk=>(kI ay t.ns k).length+5) (c:=λ_=>2412) λj ah=>by rw[WD af ah];have aa:=Pe ay (Pb (DG af ah));have ad:=KB t.ns[j];have aj:=WE (sep:=DV t.ns[j]) (GZ _) (f:=λk=>paren (ht t.ns[j].k (iq t.ns k)) (kI ay t.ns k)) (g:=λk=>(kI ay t.ns k).length+5) (λk=>by have:=aiy (ht t.ns[j].k (iq t.ns k)) (kI ay t.ns k);omega) (ks:=t.ns[j].ap) (b:=false);unfold DW;simp only[cn];omega
 rw[KD]at h;exact h
def WH(ay:List Int)(t:bs):(nE ay t).length<=2412*t.ns.length:=by
 unfold nE;cases af:right t with
 |false=>simp| true=>have:=WG (ay:=ay) af;simp only[cF];omega
abbrev Open:=Nat×Nat×Bool
def nF(e:Open):List Value:=[.int .i64 e.1,.int .i64 e.2.1,.bool e.2.2]
def nodeAt(ns:List al)(j:Nat):al:=ns.getD j ⟨0,0,0,0,0,.empty,0,0,none,0,0,[]⟩
def Pf(ay:List Int)(ns:List al)(d:al)(k:Int):List UInt8:=paren (ht d.k (iq ns k)) (kI ay ns k)
def oI(ay:List Int)(ns:List al)(e:Open):List UInt8:=bif decide ((e.2.1:Int)=0)then(bif e.2.2 then [40]else [])++rs ay (nodeAt ns e.1)else []
def uY(ay:List Int)(ns:List al)(e:Open):List UInt8:=
 oI ay ns e++(uX (DV (nodeAt ns e.1)) (Pf ay ns (nodeAt ns e.1)) (decide (0<(e.2.1:Int))) ((nodeAt ns e.1).ap.drop e.2.1)++(pH (nodeAt ns e.1)++(bif e.2.2 then [41]else [])))
def zC(ns:List al):Int->Nat:=mf 0 (λd g=>2+gO g d.ap) ns
def n4(ns:List al)(e:Open):Nat:=1+gO (zC ns) ((nodeAt ns e.1).ap.drop e.2.1)
def wA(ns:List al)(a2:List Open):Nat:=(a2.map (n4 ns)).sum
def uZ(ay:List Int)(ns:List al)(a2:List Open):List UInt8:=a2.reverse.flatMap (uY ay ns)
def BM(ay:List Int)(ns:List al)(a2:List Open)(e:Open):uZ ay ns (a2++[e])=uY ay ns e++uZ ay ns a2:=by simp[uZ]
def sD(ns:List al)(a2:List Open)(e:Open):wA ns (a2++[e])=wA ns a2+n4 ns e:=by simp[wA]
def WI(ns:List al):∀ a2:List Open,a2.length<=wA ns a2
 |[]=>by simp
 |e::a2=>by have:=WI ns a2;simp only[wA,b0,hr,ep,n4]at this |-;omega
def gr{ns:List al}{j:Nat}(h:j<ns.length):nodeAt ns j=ns[j]:=by simp[nodeAt,bT,h]
def WJ{g ei:Int->Nat}{ks:List Int}(h:∀ k∈ks,g k=ei k):gO g ks=gO ei ks:=by unfold gO;rw[fR h]
def WK(af:right t=true){j:Nat}(ah:j<t.ns.length):zC t.ns j=2+gO (zC t.ns) t.ns[j].ap:=
 DF (λd g ei h=>by rw[WJ h]) af ah
def aiz(af:right t=true):zC t.ns t.bx<=2*t.ns.length:=by
 have:=OY af (g:=zC t.ns) (c:=λ_=>2) λj ah=>by rw[WK af ah];exact cc _
 rwa [KD]at this
def WL(af:right t=true){j:Nat}(ah:j<t.ns.length)(w:Bool):uY ay t.ns (j,0,w)=paren w (kI ay t.ns j):=by rw[WD af ah];simp only[uY,oI,gr ah];cases w<;>simp[paren,DW,Pf]<;>rfl
def WM(af:right t=true){j:Nat}(ah:j<t.ns.length)(w:Bool):n4 t.ns (j,0,w)+1=zC t.ns j:=by rw[WK af ah];simp[n4,gr ah];omega
def Pg(af:right t=true){j:Nat}(ah:j<t.ns.length)(hi:i<t.ns[j].ap.length) :
  uY ay t.ns (j,i,w)=oI ay t.ns (j,i,w)++((bif decide (0<(i:Int))then DV t.ns[j]else [])++(uY ay t.ns (t.ns[j].ap[i].toNat,0,ht t.ns[j].k (iq t.ns t.ns[j].ap[i]))++uY ay t.ns (j,i+1,w))):=by
 have ae:=lb af j ah _ (bK hi);rw[WL af Z];have aK:(((t.ns[j].ap[i].toNat:Nat):Int))=t.ns[j].ap[i]:=zf ae.1;rw[aK];have ai:=e2 hi;simp only[uY,gr ah];rw[ai];have ba:oI ay t.ns (j,i+1,w)=[]:=by have:decide (((i+1:Nat):Int)=0)=false:=e8 Z;simp only[oI,this,cD]
 have cA:decide (0<((i+1:Nat):Int))=true:=gy Z;rw[ba,cA];simp only[uX,Pf,dW,hI]
def Ph(af:right t=true){j:Nat}(ah:j<t.ns.length){w':Bool}(hi:i<t.ns[j].ap.length):n4 t.ns (j,i+1,w)+n4 t.ns (t.ns[j].ap[i].toNat,0,w')+1=n4 t.ns (j,i,w):=by
 have ae:=lb af j ah _ (bK hi);have aa:=WM af (j:=t.ns[j].ap[i].toNat) Z w';have aK:(((t.ns[j].ap[i].toNat:Nat):Int))=t.ns[j].ap[i]:=zf ae.1;rw[aK]at aa;have ai:=e2 hi;have cA:n4 t.ns (j,i,w)=1+gO (zC t.ns) (t.ns[j].ap.drop i):=by simp[n4,gr ah]
 have ee:n4 t.ns (j,i+1,w)=1+gO (zC t.ns) (t.ns[j].ap.drop (i+1)):=by simp[n4,gr ah]
 rw[cA,ee,ai];simp only[gO,b0,hr];omega
def Pj{j:Nat}(ah:j<t.ns.length)(hi:t.ns[j].ap.length<=i):uY ay t.ns (j,i,w)=oI ay t.ns (j,i,w)++(pH t.ns[j]++(bif w then [41]else [])):=by simp only[uY,gr ah,mc hi];rfl
def Pk{d:Nat}{x:dx}(h:F d=x):gS F d x=F:=by
 funext t;unfold gS;cases e:Nat.beq t d with
 |false=>rfl| true=>have:=ea e;subst this;exact h.symm
def aiA{d:Nat}{x:Option (List Value)}(h:C d=x):jl C d x=C:=by
 funext t;unfold jl;cases e:Nat.beq t d with
 |false=>rfl| true=>have:=ea e;subst this;exact h.symm
def KE:Code->Code
 | .scope c=>c
 | .seq a b=>match KE a with
  | .skip=>KE b| c=>c
 |_=>.skip
def WN(c:Code)(l:Nat):Code:=(findLabel c l).getD .skip
def b4.zw{b j:Nat}{K:List aA->Prop}(a9 post:List aA)(cs:Array Value)(T:Nat)(bc:M=a9++⟨b,.cells cs T (0,0)⟩::post)(ag:i+j+vs.length<=cs.size)(aa:fH vs=true)
  (h:K (a9++⟨b,.cells (cd cs.toList (i+j) vs).toArray T (0,0)⟩::post)):b4 M (((⟨b,0,none⟩:Addr).add i).add j) vs K:=by
 rw[Go.V.zw];refine b4.add a9 post cs T bc Z aa ?_;rw[dn];exact h
structure en(I:aH)(ay:List Int):Prop where
 c:mR I
 p:Pc I
 s:GY I
 d:sy I ay
def Pl(a b c:α)(L:List α):(a::b::(L++[c])).Perm ([b,c]++(a::L)):=
 (List.Perm.swap b a _).trans (((((O6 c L).cons a)).trans (List.Perm.swap c a L)).cons b)
def Pm(a9:List Value)(a b c z:Value)(bm:List Value):cd (a9++([a,b,c]++bm)) (a9.length+1) [z]=a9++([a,z,c]++bm):=by have:=Wv a9 a b z (c::bm) _ rfl;exact this
def en.mono(h:en I ay)(bE:∀ b o,I b=some o->I' b=some o):en I' ay:=by obtain⟨⟨aiB,f1,aa⟩,⟨BN,f2,ad⟩,⟨aiC,f3,aj⟩,⟨aJ,bD,Pn,f4,cG⟩⟩:=h;exact⟨⟨aiB,f1,bE _ _ aa⟩,⟨BN,f2,bE _ _ ad⟩,⟨aiC,f3,bE _ _ aj⟩,⟨aJ,bD,Pn,f4,bE _ _ cG⟩⟩
def pI(a2:List Open):List Value:=a2.flatMap nF
def G0(a2:List Open):(pI a2).length=a2.length*3:=hc nF 3 (λ_=>rfl) a2
def BO(a2:List Open)(e:Open):pI (a2++[e])=pI a2++[.int .i64 e.1,.int .i64 e.2.1,.bool e.2.2]:=by simp[pI,nF]
abbrev G1:=gp×aT×List Open×aH
def WO(t:bs)(g:Nat)(x:G1):xB:={ bp:=[(1,.ref 1 0),(3,.val (ptr g)),(4,.val x.2.1.val)],cl:=[(1,t.cells)],cO:=x.2.2.2,c5:=x.2.1.ar 378++x.1.M g }
structure KF(dA:aH)(ay:List Int)(t:bs)(x:G1):Prop where
 le:∀ b o,dA b=some o->x.2.2.2 b=some o
 ok:x.1.ok
 os:x.2.1.ok 3 (pI x.2.2.1)
 ne:x.2.2.1≠[]
 awM:∀ e∈x.2.2.1,e.1<t.ns.length
 awN:x.1.ch++uZ ay t.ns x.2.2.1=kI ay t.ns t.bx
 awO:wA t.ns x.2.2.1<=2*t.ns.length
def WQ{dA:aH}(a6:en dA ay)(au:t.ok dA)(af:right t=true)(aC:t.n<=1024){p:Nat->Nat×G1->Prop}(x:G1)(ab:KF dA ay t x)(aI:∀ y,KF dA ay t y->wA t.ns y.2.2.1<wA t.ns x.2.2.1->p 0 (g,y))(B:Nat)(ax:World)(G:Fr)(BP:de) :
  V ⟨Tryz.prog,sw,[3],Tryz.f343.ntmps,B,ax,dA,[],none⟩ (WN (KE (Tryz.f343.body.getD .skip)) 0) (gS (gS (gS G 4 (.val x.2.1.val)) 3 (.val (ptr g))) 1 (.ref 1 0)) (jl BP 1 (some t.cells)) x.2.2.2 (x.2.1.ar 378++x.1.M g)
   (Ot (λl=>qe [] (λy=>WO t y.1 y.2) (p l)) (v7 ⟨Tryz.prog,sw,[3],Tryz.f343.ntmps,B,ax,dA,[],none⟩ Tryz.f343.results.toList
    (λr I' M'=>r=.string (strOf (kI ay t.ns t.bx))/\(∀ b o,dA b=some o->I' b=some o)/\M'=[]))):=by
 obtain⟨x,⟨BE,n,fl,aS⟩,a2,I1⟩:=x;obtain⟨bn,G2,b3,bz,fv,n5,WR⟩:=ab;simp only at bn G2 b3 bz fv n5 WR aI |-;have jG:=a6.mono bn;have tD:=au.mono bn;have pw:=au.n;obtain⟨hV,⟨j,i,w⟩,rfl⟩:∃ hV e,a2=hV++[e]:=by
  rcases ze a2 with h | ⟨r,e,h⟩;·exact(bz h).elim
  ·exact⟨r,e,i5⟩
 have gY:hV.length+1=n:=by have aa:=b3.len;rw[G0]at aa;simp at aa;omega
 have ah:j<t.ns.length:=fv (j,i,w) am;have jA:j<t.n:=by omega
 cases BE with
 |none=>have:=(b3.nil rfl).1;simp only at this;omega| some c0=>
 obtain⟨dp,mO,lP,ej⟩:=b3.cap c0 rfl;simp only at dp mO lP ej;have gx:(pI hV).length=(n-1)*3:=by rw[G0];omega
 obtain⟨bm,nD⟩:∃ bm,aS=pI hV++([.int .i64 j,.int .i64 i,.bool w]++bm):=by refine⟨aS.drop (n*3),?_⟩;have ad:=px (n*3) aS;rw[ej,BO,dW]at ad;exact ad.symm
 have aiD:aS[(n-1)*3+0]?=some (.int .i64 j):=by rw[nD,<-gx,lO Z];simp
 have sE:aS[(n-1)*3+1]?=some (.int .i64 i):=by rw[nD,<-gx,lO Z];simp
 have KG:aS[(n-1)*3+2]?=some (.bool w):=by rw[nD,<-gx,lO Z];simp
 have zD:=WG (ay:=ay) af;have kG:x.ch.length<=2412*t.ns.length:=by have:=congrArg List.length n5;rw[cn]at this;omega
 have WS:=WI t.ns (hV++[(j,i,w)]);simp only[cn,ep,hj]at WS;have gm:=tD.ns t.ns[j] (bK ah);have fh:=gm.aF;have sg:=Pb (DG af ah);obtain⟨aR,bI,bo⟩:=tD.bb.row al.cL jA ah;rw[BM]at n5;rw[sD]at WR aI WS;have nG:IntKind.i64.wrap ((n:Int)-1)=((n-1:Nat):Int):=by rw[wrap_i64 ⟨Z,Z⟩];omega
 refine be.mk (((n-1:Nat)):Int) nG ?_;refine bt.mk ⟨c0,0,none⟩ (n-1) rfl rfl (by show n-1<n;omega) ?_;refine cY.draw a0 rfl rfl rfl ?_;refine aU.mk [.int .i64 j] (nC (b:=c0) (cs:=aS) (T:=378) gc aiD) ?_;refine bt.mk aR j bI rfl jA ?_;refine aU.mk _ (bo _) ?_;refine bQ.mk λb6 KH WT=>?_;refine b4.mk [] (⟨c0,.cells aS.toArray 378 (0,0)⟩::x.M g) _ _ rfl rfl (bJ rfl) rfl ?_;refine aU.mk [.int .i64 i] (nC (b:=c0) (cs:=aS) (T:=378) gc sE) ?_;refine aZ.mk (λaa=>?_) (λaa=>?_)
 ·refine aU.mk [.bool w] (nC (b:=c0) (cs:=aS) (T:=378) gc KG) ?_;refine aZ.mk (λad=>?_) (λad=>?_)
  ·refine a8.mk (x.M g) [⟨b6,.cells t.ns[j].cells.toArray 88 (0,0)⟩,⟨c0,.cells aS.toArray 378 (0,0)⟩] _ (eN (l₁:=[_,_])) (pC g G2 40 Z) ?_;rintro v ew dv -⟨rfl,rfl,y,aG,gX,rfl⟩;have GP:y.ch.length<=2412*t.ns.length+1:=by rw[gX];simp;omega
   refine aU.mk _ (dm (T:=88) (b:=b6) (cs:=t.ns[j].cells) (k:=0) (n:=9) am (bJ rfl)) ?_;refine a8.mk [] (y.M g++[⟨b6,.cells t.ns[j].cells.toArray 88 (0,0)⟩,⟨c0,.cells aS.toArray 378 (0,0)⟩]) _ am (WB jG.d jG.s gm sg) ?_;rintro v ew dv -⟨rfl,gq,rfl⟩;have mi:∀ b o,dA b=some o->ew b=some o:=λb o h=>gq _ _ (bn _ _ h);have DX:=Pe ay sg;refine a8.mk (y.M g) [⟨b6,.cells t.ns[j].cells.toArray 88 (0,0)⟩,⟨c0,.cells aS.toArray 378 (0,0)⟩] _ am (uN g aG _ arg) ?_;rintro v k8 oB -⟨rfl,rfl,u,hu,xS,rfl⟩;have sF:u.ch=x.ch++oI ay t.ns (j,i,w):=by rw[xS,gX];simp only[oI,aa,ad,gr ah,cF,cD];simp[strOf]
   have DO:u.ch.length<=2412*t.ns.length+2401:=by rw[sF,cn];simp only[oI,aa,ad,gr ah,cF,cD,cn,ep,hj];omega
   have hK:=a6.mono mi;have nH:=au.mono mi;have ru:=nH.ns t.ns[j] (bK ah);have G3:∀ {k m:Nat},k+m<=9->c6 k8 (u.M g++[⟨b6,.cells t.ns[j].cells.toArray 88 (0,0)⟩,⟨c0,.cells aS.toArray 378 (0,0)⟩]) ((⟨b6,0,none⟩:Addr).add k) m ((t.ns[j].cells.drop k).take m):=λh=>dm (T:=88) am h;refine cY.draw a0 rfl rfl rfl ?_;refine aU.mk [.int .i64 i] (nC (b:=c0) (cs:=aS) (T:=378) gc sE) ?_;refine aU.mk _ (G3 bv) ?_;refine aZ.mk (λae=>?_) (λae=>?_)
   ·have dN:i<t.ns[j].aF:=by simpa using ae
    have rv:i<t.ns[j].ap.length:=by omega
    obtain⟨gn,fk,fc⟩:=ru.bb.one dN rv;have e5:=lb af j ah _ (bK rv);obtain⟨q,xX⟩:=eh e5.1;have iH:q<t.ns.length:=by omega
    have ry:q<t.n:=by omega
    obtain⟨rz,xY,xZ⟩:=nH.bb.row al.cL ry iH;have x0:∀ M,c6 k8 M ((rz.add (q*9)).add 0) 1 [.int .u8 t.ns[q].k]:=λM=>(xZ M).part (k:=0) (m:=1) bv;have u0:iq t.ns ((q:Nat):Int)=t.ns[q].k:=by simp[iq,bT,iH]
    have i':=Pg (ay:=ay) af ah (w:=w) rv;have zE:=Ph af ah (w:=w) (w':=ht t.ns[j].k t.ns[q].k) rv;rw[xX]at i' zE;simp only[BI,hC]at i' zE;rw[u0]at i';have gN:IntKind.i64.wrap ((i:Int)+1)=((i+1:Nat):Int):=by have:=ru.bb.cap;rw[wrap_i64 ⟨Z,Z⟩];omega
    have di:cd aS ((n-1)*3+1) [.int .i64 ((i+1:Nat):Int)]=pI hV++([.int .i64 j,.int .i64 ((i+1:Nat):Int),.bool w]++bm):=by rw[nD,<-gx];exact Pm _ _ _ _ _ _
    have BQ:aT.ok ⟨some c0,n,fl,cd aS ((n-1)*3+1) [.int .i64 ((i+1:Nat):Int)]⟩ 3 (pI (hV++[(j,i+1,w)])):=by
     rw[di,BO];refine⟨FS,(λh=>ci),λbW _=>⟨?_,mO,lP,?_⟩⟩;·simp only;rw[<-dp,nD];simp
     ·simp only;rw[<-dW];refine st ?_;simp only[cn,ep,hj];omega
    refine aU.mk [.int .i64 i] (nC (b:=c0) (cs:=aS) (T:=378) gc sE) ?_;refine aZ.mk (λbg=>ay8) (λbg=>?_);refine cY.draw a0 rfl rfl rfl ?_;refine aU.mk _ (dm (T:=88) (b:=b6) (cs:=t.ns[j].cells) (k:=8) (n:=1) am (bJ rfl)) ?_;refine aU.mk [.int .i64 i] (nC (b:=c0) (cs:=aS) (T:=378) gc sE) ?_;refine bt.mk gn i fk rfl dN ?_;refine aU.mk [.int .i64 (q:Nat)] Id ?_;refine aU.mk [.int .i64 i] (nC (b:=c0) (cs:=aS) (T:=378) gc sE) ?_;refine be.mk ((i+1:Nat):Int) gN ?_;refine b4.zw (u.M g++[⟨b6,.cells t.ns[j].cells.toArray 88 (0,0)⟩]) [] aS.toArray 378 gc ?_ rfl ?_;·simp only[s5];show(n-1)*3+1+1<=_;omega
    refine cY.draw a0 rfl rfl rfl ?_;refine aU.mk [.int .u8 t.ns[j].k] (dm (T:=88) (b:=b6) (cs:=t.ns[j].cells) (k:=0) (n:=1) am (bJ rfl)) ?_;refine bt.mk rz q xY rfl ry ?_;refine aU.mk [.int .u8 t.ns[q].k] (x0 _) ?_;refine ev.mk _ (O1 t.ns[j].k t.ns[q].k) ?_;rintro v G4 qm -⟨rfl,rfl,rfl⟩;refine bQ.mk λb9 mU BR=>?_;refine bC.append a0 rfl am (e:=378) rfl rfl rfl ⟨some c0,n,fl,cd aS ((n-1)*3+1) [.int .i64 ((i+1:Nat):Int)]⟩ (xs:=pI (hV++[(j,i+1,w)])) BQ rfl (m:=1) rfl (b8:=nF (q,0,ht t.ns[j].k t.ns[q].k)) bv (dm (b:=b9) (cs:=nF (q,0,ht t.ns[j].k t.ns[q].k)) (k:=0) (n:=3) (T:=378) (.head _) (bJ rfl)) rfl (Mr:=⟨b9,.cells (nF (q,0,ht t.ns[j].k t.ns[q].k)).toArray 378 (0,0)⟩::(u.M g++[⟨b6,.cells t.ns[j].cells.toArray 88 (0,0)⟩])) d6 ww axT ?_;intro ei c' j3 eg eV e0 iZ;refine⟨(g,u,⟨some ei,n+1,c',j3⟩,hV++[(j,i+1,w)]++[(q,0,ht t.ns[j].k t.ns[q].k)],_),aI _ ⟨mi,hu,⟨?_,(λh=>ci),λbW _=>⟨eg,eV,e0,?_⟩⟩,am,?_,?_,?_⟩ ?_,.perm (M1:=[⟨b9,.cells (nF (q,0,ht t.ns[j].k t.ns[q].k)).toArray 378 (0,0)⟩,⟨b6,.cells t.ns[j].cells.toArray 88 (0,0)⟩]++(⟨ei,.cells j3.toArray 378 (0,0)⟩::u.M g)) (Pl _ _ _ _) (.sub (mL _ _) .refl),fQ,.cons rfl .nil⟩;·show _=(n+1)*3;rw[G0];simp;omega
    ·show j3.take ((n+1)*3)=_;rw[BO (hV++[(j,i+1,w)])];exact iZ
    ·intro e he;simp only[c1,eL]at he;rcases he with(he | rfl) | rfl
     ·exact fv e abs
     ·exact ah
     ·exact iH
    ·simp only;rw[BM,BM,sF,<-n5,i'];rw[show decide (0<(i:Int))=false from bg];simp
    ·simp only;rw[sD,sD];omega
    ·simp only;rw[sD,sD];omega
   ·have dN:t.ns[j].ap.length<=i:=by simp at ae;omega
    have i':=Pj (ay:=ay) ah (w:=w) dN;have kA:=KB t.ns[j];refine aU.mk _ (dm (T:=88) (b:=b6) (cs:=t.ns[j].cells) (k:=0) (n:=9) am (bJ rfl)) ?_;refine a8.mk [] (u.M g++[⟨b6,.cells t.ns[j].cells.toArray 88 (0,0)⟩,⟨c0,.cells aS.toArray 378 (0,0)⟩]) _ (.refl _) (Pd hK.c hK.p hK.s ru sg) ?_;rintro v G4 qm -⟨rfl,rfl,rfl⟩;refine a8.mk (u.M g) [⟨b6,.cells t.ns[j].cells.toArray 88 (0,0)⟩,⟨c0,.cells aS.toArray 378 (0,0)⟩] _ am (uN g hu _ AC) ?_;rintro v WU WV -⟨rfl,rfl,a,a7,lf,rfl⟩;have WW:a.ch.length<=2412*t.ns.length+2410:=by rw[lf,cn];show _+(pH t.ns[j]).length<=_;omega
    refine aU.mk [.bool w] (nC (b:=c0) (cs:=aS) (T:=378) gc KG) ?_;refine aZ.mk (λhw=>?_) (λhw=>?_)
    ·subst hw;refine a8.mk (a.M g) [⟨b6,.cells t.ns[j].cells.toArray 88 (0,0)⟩,⟨c0,.cells aS.toArray 378 (0,0)⟩] _ am (pC g a7 41 Z) ?_;rintro v WX qu -⟨rfl,rfl,c,ao,lL,rfl⟩;refine be.mk (((n-1:Nat)):Int) nG ?_;refine kY.mk 0 (n-1) rfl rfl (dQ _) i3 ?_;refine aZ.mk (λbg=>?_) (λbg=>?_)
     ·have gL:0<n-1:=by simp at bg;omega
      refine⟨(g,c,⟨some c0,n-1,fl,aS⟩,hV,_),aI _ ⟨mi,ao,⟨?_,(λh=>ci),λbW _=>⟨dp,i3,lP,?_⟩⟩,?_,λe he=>fv e abs,?_,?_⟩ ?_,.perm (M1:=[⟨b6,.cells t.ns[j].cells.toArray 88 (0,0)⟩]++(⟨c0,.cells aS.toArray 378 (0,0)⟩::c.M g)) (eN (l₂:=[_,_])) (.sub (mL _ _) .refl),fQ,.cons rfl .nil⟩;·exact gx
      ·show aS.take ((n-1)*3)=_;rw[nD,<-gx];exact st rfl
      ·intro h;simp only at h;rw[h]at gY;simp at gY;omega
      ·simp only;rw[lL,lf,sF,<-n5,i'];simp[strOf]
      ·simp only;omega
      ·simp only[n4];omega
     ·have gL:n-1=0:=by simp at bg;omega
      have u1:hV=[]:=im Z;have oJ:c.ch=kI ay t.ns t.bx:=by rw[lL,lf,sF,<-n5,i',u1];simp[uZ,strOf]
      refine a8.mk (c.M g) [⟨b6,.cells t.ns[j].cells.toArray 88 (0,0)⟩,⟨c0,.cells aS.toArray 378 (0,0)⟩] _ am (xQ g ao ai') ?_;rintro v G5 G6 -⟨rfl,rfl,rfl⟩;refine⟨_,_,.sub (fs _) .refl,?_,mi,rfl⟩;rw[oJ];rfl
    ·subst hw;refine be.mk (((n-1:Nat)):Int) nG ?_;refine kY.mk 0 (n-1) rfl rfl (dQ _) i3 ?_;refine aZ.mk (λbg=>?_) (λbg=>?_)
     ·have gL:0<n-1:=by simp at bg;omega
      refine⟨(g,a,⟨some c0,n-1,fl,aS⟩,hV,_),aI _ ⟨mi,a7,⟨?_,(λh=>ci),λbW _=>⟨dp,i3,lP,?_⟩⟩,?_,λe he=>fv e abs,?_,?_⟩ ?_,.perm (M1:=[⟨b6,.cells t.ns[j].cells.toArray 88 (0,0)⟩]++(⟨c0,.cells aS.toArray 378 (0,0)⟩::a.M g)) (eN (l₂:=[_,_])) (.sub (mL _ _) .refl),fQ,.cons rfl .nil⟩;·exact gx
      ·show aS.take ((n-1)*3)=_;rw[nD,<-gx];exact st rfl
      ·intro h;simp only at h;rw[h]at gY;simp at gY;omega
      ·simp only;rw[lf,sF,<-n5,i'];simp[strOf]
      ·simp only;omega
      ·simp only[n4];omega
     ·have gL:n-1=0:=by simp at bg;omega
      have u1:hV=[]:=im Z;have oJ:a.ch=kI ay t.ns t.bx:=by rw[lf,sF,<-n5,i',u1];simp[uZ,strOf]
      refine a8.mk (a.M g) [⟨b6,.cells t.ns[j].cells.toArray 88 (0,0)⟩,⟨c0,.cells aS.toArray 378 (0,0)⟩] _ am (xQ g a7 ai') ?_;rintro v G5 G6 -⟨rfl,rfl,rfl⟩;refine⟨_,_,.sub (fs _) .refl,?_,mi,rfl⟩;rw[oJ];rfl
  ·refine aU.mk _ (dm (T:=88) (b:=b6) (cs:=t.ns[j].cells) (k:=0) (n:=9) (.head _) (bJ rfl)) ?_;refine a8.mk [] (⟨b6,.cells t.ns[j].cells.toArray 88 (0,0)⟩::⟨c0,.cells aS.toArray 378 (0,0)⟩::x.M g) _ (.refl _) (WB jG.d jG.s gm sg) ?_;rintro v ew dv -⟨rfl,gq,rfl⟩;have mi:∀ b o,dA b=some o->ew b=some o:=λb o h=>gq _ _ (bn _ _ h);have DX:=Pe ay sg;refine a8.mk (x.M g) [⟨b6,.cells t.ns[j].cells.toArray 88 (0,0)⟩,⟨c0,.cells aS.toArray 378 (0,0)⟩] _ (eN (l₁:=[_,_])) (uN g G2 _ arg) ?_;rintro v k8 oB -⟨rfl,rfl,u,hu,xS,rfl⟩;have sF:u.ch=x.ch++oI ay t.ns (j,i,w):=by rw[xS];simp only[oI,aa,ad,gr ah,cF,cD];simp[strOf]
   have DO:u.ch.length<=2412*t.ns.length+2401:=by rw[sF,cn];simp only[oI,aa,ad,gr ah,cF,cD,cn,ep,hj];omega
   have hK:=a6.mono mi;have nH:=au.mono mi;have ru:=nH.ns t.ns[j] (bK ah);have G3:∀ {k m:Nat},k+m<=9->c6 k8 (u.M g++[⟨b6,.cells t.ns[j].cells.toArray 88 (0,0)⟩,⟨c0,.cells aS.toArray 378 (0,0)⟩]) ((⟨b6,0,none⟩:Addr).add k) m ((t.ns[j].cells.drop k).take m):=λh=>dm (T:=88) am h;refine cY.draw a0 rfl rfl rfl ?_;refine aU.mk [.int .i64 i] (nC (b:=c0) (cs:=aS) (T:=378) gc sE) ?_;refine aU.mk _ (G3 bv) ?_;refine aZ.mk (λae=>?_) (λae=>?_)
   ·have dN:i<t.ns[j].aF:=by simpa using ae
    have rv:i<t.ns[j].ap.length:=by omega
    obtain⟨gn,fk,fc⟩:=ru.bb.one dN rv;have e5:=lb af j ah _ (bK rv);obtain⟨q,xX⟩:=eh e5.1;have iH:q<t.ns.length:=by omega
    have ry:q<t.n:=by omega
    obtain⟨rz,xY,xZ⟩:=nH.bb.row al.cL ry iH;have x0:∀ M,c6 k8 M ((rz.add (q*9)).add 0) 1 [.int .u8 t.ns[q].k]:=λM=>(xZ M).part (k:=0) (m:=1) bv;have u0:iq t.ns ((q:Nat):Int)=t.ns[q].k:=by simp[iq,bT,iH]
    have i':=Pg (ay:=ay) af ah (w:=w) rv;have zE:=Ph af ah (w:=w) (w':=ht t.ns[j].k t.ns[q].k) rv;rw[xX]at i' zE;simp only[BI,hC]at i' zE;rw[u0]at i';have gN:IntKind.i64.wrap ((i:Int)+1)=((i+1:Nat):Int):=by have:=ru.bb.cap;rw[wrap_i64 ⟨Z,Z⟩];omega
    have di:cd aS ((n-1)*3+1) [.int .i64 ((i+1:Nat):Int)]=pI hV++([.int .i64 j,.int .i64 ((i+1:Nat):Int),.bool w]++bm):=by rw[nD,<-gx];exact Pm _ _ _ _ _ _
    have BQ:aT.ok ⟨some c0,n,fl,cd aS ((n-1)*3+1) [.int .i64 ((i+1:Nat):Int)]⟩ 3 (pI (hV++[(j,i+1,w)])):=by
     rw[di,BO];refine⟨FS,(λh=>ci),λbW _=>⟨?_,mO,lP,?_⟩⟩;·simp only;rw[<-dp,nD];simp
     ·simp only;rw[<-dW];refine st ?_;simp only[cn,ep,hj];omega
    refine aU.mk [.int .i64 i] (nC (b:=c0) (cs:=aS) (T:=378) gc sE) ?_;refine aZ.mk (λbg=>ay8) (λbg=>?_);refine cY.draw a0 rfl rfl rfl ?_;refine aU.mk _ (dm (T:=88) (b:=b6) (cs:=t.ns[j].cells) (k:=8) (n:=1) am (bJ rfl)) ?_;refine aU.mk [.int .i64 i] (nC (b:=c0) (cs:=aS) (T:=378) gc sE) ?_;refine bt.mk gn i fk rfl dN ?_;refine aU.mk [.int .i64 (q:Nat)] Id ?_;refine aU.mk [.int .i64 i] (nC (b:=c0) (cs:=aS) (T:=378) gc sE) ?_;refine be.mk ((i+1:Nat):Int) gN ?_;refine b4.zw (u.M g++[⟨b6,.cells t.ns[j].cells.toArray 88 (0,0)⟩]) [] aS.toArray 378 gc ?_ rfl ?_;·simp only[s5];show(n-1)*3+1+1<=_;omega
    refine cY.draw a0 rfl rfl rfl ?_;refine aU.mk [.int .u8 t.ns[j].k] (dm (T:=88) (b:=b6) (cs:=t.ns[j].cells) (k:=0) (n:=1) am (bJ rfl)) ?_;refine bt.mk rz q xY rfl ry ?_;refine aU.mk [.int .u8 t.ns[q].k] (x0 _) ?_;refine ev.mk _ (O1 t.ns[j].k t.ns[q].k) ?_;rintro v G4 qm -⟨rfl,rfl,rfl⟩;refine bQ.mk λb9 mU BR=>?_;refine bC.append a0 rfl am (e:=378) rfl rfl rfl ⟨some c0,n,fl,cd aS ((n-1)*3+1) [.int .i64 ((i+1:Nat):Int)]⟩ (xs:=pI (hV++[(j,i+1,w)])) BQ rfl (m:=1) rfl (b8:=nF (q,0,ht t.ns[j].k t.ns[q].k)) bv (dm (b:=b9) (cs:=nF (q,0,ht t.ns[j].k t.ns[q].k)) (k:=0) (n:=3) (T:=378) (.head _) (bJ rfl)) rfl (Mr:=⟨b9,.cells (nF (q,0,ht t.ns[j].k t.ns[q].k)).toArray 378 (0,0)⟩::(u.M g++[⟨b6,.cells t.ns[j].cells.toArray 88 (0,0)⟩])) d6 ww axT ?_;intro ei c' j3 eg eV e0 iZ;refine⟨(g,u,⟨some ei,n+1,c',j3⟩,hV++[(j,i+1,w)]++[(q,0,ht t.ns[j].k t.ns[q].k)],_),aI _ ⟨mi,hu,⟨?_,(λh=>ci),λbW _=>⟨eg,eV,e0,?_⟩⟩,am,?_,?_,?_⟩ ?_,.perm (M1:=[⟨b9,.cells (nF (q,0,ht t.ns[j].k t.ns[q].k)).toArray 378 (0,0)⟩,⟨b6,.cells t.ns[j].cells.toArray 88 (0,0)⟩]++(⟨ei,.cells j3.toArray 378 (0,0)⟩::u.M g)) (Pl _ _ _ _) (.sub (mL _ _) .refl),fQ,.cons rfl .nil⟩;·show _=(n+1)*3;rw[G0];simp;omega
    ·show j3.take ((n+1)*3)=_;rw[BO (hV++[(j,i+1,w)])];exact iZ
    ·intro e he;simp only[c1,eL]at he;rcases he with(he | rfl) | rfl
     ·exact fv e abs
     ·exact ah
     ·exact iH
    ·simp only;rw[BM,BM,sF,<-n5,i'];rw[show decide (0<(i:Int))=false from bg];simp
    ·simp only;rw[sD,sD];omega
    ·simp only;rw[sD,sD];omega
   ·have dN:t.ns[j].ap.length<=i:=by simp at ae;omega
    have i':=Pj (ay:=ay) ah (w:=w) dN;have kA:=KB t.ns[j];refine aU.mk _ (dm (T:=88) (b:=b6) (cs:=t.ns[j].cells) (k:=0) (n:=9) am (bJ rfl)) ?_;refine a8.mk [] (u.M g++[⟨b6,.cells t.ns[j].cells.toArray 88 (0,0)⟩,⟨c0,.cells aS.toArray 378 (0,0)⟩]) _ (.refl _) (Pd hK.c hK.p hK.s ru sg) ?_;rintro v G4 qm -⟨rfl,rfl,rfl⟩;refine a8.mk (u.M g) [⟨b6,.cells t.ns[j].cells.toArray 88 (0,0)⟩,⟨c0,.cells aS.toArray 378 (0,0)⟩] _ am (uN g hu _ AC) ?_;rintro v WU WV -⟨rfl,rfl,a,a7,lf,rfl⟩;have WW:a.ch.length<=2412*t.ns.length+2410:=by rw[lf,cn];show _+(pH t.ns[j]).length<=_;omega
    refine aU.mk [.bool w] (nC (b:=c0) (cs:=aS) (T:=378) gc KG) ?_;refine aZ.mk (λhw=>?_) (λhw=>?_)
    ·subst hw;refine a8.mk (a.M g) [⟨b6,.cells t.ns[j].cells.toArray 88 (0,0)⟩,⟨c0,.cells aS.toArray 378 (0,0)⟩] _ am (pC g a7 41 Z) ?_;rintro v WX qu -⟨rfl,rfl,c,ao,lL,rfl⟩;refine be.mk (((n-1:Nat)):Int) nG ?_;refine kY.mk 0 (n-1) rfl rfl (dQ _) i3 ?_;refine aZ.mk (λbg=>?_) (λbg=>?_)
     ·have gL:0<n-1:=by simp at bg;omega
      refine⟨(g,c,⟨some c0,n-1,fl,aS⟩,hV,_),aI _ ⟨mi,ao,⟨?_,(λh=>ci),λbW _=>⟨dp,i3,lP,?_⟩⟩,?_,λe he=>fv e abs,?_,?_⟩ ?_,.perm (M1:=[⟨b6,.cells t.ns[j].cells.toArray 88 (0,0)⟩]++(⟨c0,.cells aS.toArray 378 (0,0)⟩::c.M g)) (eN (l₂:=[_,_])) (.sub (mL _ _) .refl),fQ,.cons rfl .nil⟩;·exact gx
      ·show aS.take ((n-1)*3)=_;rw[nD,<-gx];exact st rfl
      ·intro h;simp only at h;rw[h]at gY;simp at gY;omega
      ·simp only;rw[lL,lf,sF,<-n5,i'];simp[strOf]
      ·simp only;omega
      ·simp only[n4];omega
     ·have gL:n-1=0:=by simp at bg;omega
      have u1:hV=[]:=im Z;have oJ:c.ch=kI ay t.ns t.bx:=by rw[lL,lf,sF,<-n5,i',u1];simp[uZ,strOf]
      refine a8.mk (c.M g) [⟨b6,.cells t.ns[j].cells.toArray 88 (0,0)⟩,⟨c0,.cells aS.toArray 378 (0,0)⟩] _ am (xQ g ao ai') ?_;rintro v G5 G6 -⟨rfl,rfl,rfl⟩;refine⟨_,_,.sub (fs _) .refl,?_,mi,rfl⟩;rw[oJ];rfl
    ·subst hw;refine be.mk (((n-1:Nat)):Int) nG ?_;refine kY.mk 0 (n-1) rfl rfl (dQ _) i3 ?_;refine aZ.mk (λbg=>?_) (λbg=>?_)
     ·have gL:0<n-1:=by simp at bg;omega
      refine⟨(g,a,⟨some c0,n-1,fl,aS⟩,hV,_),aI _ ⟨mi,a7,⟨?_,(λh=>ci),λbW _=>⟨dp,i3,lP,?_⟩⟩,?_,λe he=>fv e abs,?_,?_⟩ ?_,.perm (M1:=[⟨b6,.cells t.ns[j].cells.toArray 88 (0,0)⟩]++(⟨c0,.cells aS.toArray 378 (0,0)⟩::a.M g)) (eN (l₂:=[_,_])) (.sub (mL _ _) .refl),fQ,.cons rfl .nil⟩;·exact gx
      ·show aS.take ((n-1)*3)=_;rw[nD,<-gx];exact st rfl
      ·intro h;simp only at h;rw[h]at gY;simp at gY;omega
      ·simp only;rw[lf,sF,<-n5,i'];simp[strOf]
      ·simp only;omega
      ·simp only[n4];omega
     ·have gL:n-1=0:=by simp at bg;omega
      have u1:hV=[]:=im Z;have oJ:a.ch=kI ay t.ns t.bx:=by rw[lf,sF,<-n5,i',u1];simp[uZ,strOf]
      refine a8.mk (a.M g) [⟨b6,.cells t.ns[j].cells.toArray 88 (0,0)⟩,⟨c0,.cells aS.toArray 378 (0,0)⟩] _ am (xQ g a7 ai') ?_;rintro v G5 G6 -⟨rfl,rfl,rfl⟩;refine⟨_,_,.sub (fs _) .refl,?_,mi,rfl⟩;rw[oJ];rfl
 ·have awP:x.ch=x.ch++oI ay t.ns (j,i,w):=by simp only[oI,aa,cD,dK]
  have hK:=a6.mono bn;have nH:=au.mono bn;have ru:=nH.ns t.ns[j] (bK ah);have G3:∀ {k m:Nat},k+m<=9->c6 I1 (⟨b6,.cells t.ns[j].cells.toArray 88 (0,0)⟩::⟨c0,.cells aS.toArray 378 (0,0)⟩::x.M g) ((⟨b6,0,none⟩:Addr).add k) m ((t.ns[j].cells.drop k).take m):=λh=>dm (T:=88) am h;refine cY.draw a0 rfl rfl rfl ?_;refine aU.mk [.int .i64 i] (nC (b:=c0) (cs:=aS) (T:=378) gc sE) ?_;refine aU.mk _ (G3 bv) ?_;refine aZ.mk (λae=>?_) (λae=>?_)
  ·have dN:i<t.ns[j].aF:=by simpa using ae
   have rv:i<t.ns[j].ap.length:=by omega
   obtain⟨gn,fk,fc⟩:=ru.bb.one dN rv;have e5:=lb af j ah _ (bK rv);obtain⟨q,xX⟩:=eh e5.1;have iH:q<t.ns.length:=by omega
   have ry:q<t.n:=by omega
   obtain⟨rz,xY,xZ⟩:=nH.bb.row al.cL ry iH;have x0:∀ M,c6 I1 M ((rz.add (q*9)).add 0) 1 [.int .u8 t.ns[q].k]:=λM=>(xZ M).part (k:=0) (m:=1) bv;have u0:iq t.ns ((q:Nat):Int)=t.ns[q].k:=by simp[iq,bT,iH]
   have i':=Pg (ay:=ay) af ah (w:=w) rv;have zE:=Ph af ah (w:=w) (w':=ht t.ns[j].k t.ns[q].k) rv;rw[xX]at i' zE;simp only[BI,hC]at i' zE;rw[u0]at i';have gN:IntKind.i64.wrap ((i:Int)+1)=((i+1:Nat):Int):=by have:=ru.bb.cap;rw[wrap_i64 ⟨Z,Z⟩];omega
   have di:cd aS ((n-1)*3+1) [.int .i64 ((i+1:Nat):Int)]=pI hV++([.int .i64 j,.int .i64 ((i+1:Nat):Int),.bool w]++bm):=by rw[nD,<-gx];exact Pm _ _ _ _ _ _
   have BQ:aT.ok ⟨some c0,n,fl,cd aS ((n-1)*3+1) [.int .i64 ((i+1:Nat):Int)]⟩ 3 (pI (hV++[(j,i+1,w)])):=by
    rw[di,BO];refine⟨FS,(λh=>ci),λbW _=>⟨?_,mO,lP,?_⟩⟩;·simp only;rw[<-dp,nD];simp
    ·simp only;rw[<-dW];refine st ?_;simp only[cn,ep,hj];omega
   refine aU.mk [.int .i64 i] (nC (b:=c0) (cs:=aS) (T:=378) gc sE) ?_;refine aZ.mk (λbg=>?_) (λbg=>ay8);refine aU.mk [.int .u8 t.ns[j].k] (dm (T:=88) (b:=b6) (cs:=t.ns[j].cells) (k:=0) (n:=1) (.head _) (bJ rfl)) ?_;refine cw.mk t.ns[j].k.toNat (by have:=ru.k;omega) (by have:=sg.k;have:=ru.k;omega) ?_;refine aU.mk _ (hK.s.rd _ (by have:=sg.k;have:=ru.k;show t.ns[j].k.toNat*3+1<30;omega)) ?_;refine a8.mk (x.M g) [⟨b6,.cells t.ns[j].cells.toArray 88 (0,0)⟩,⟨c0,.cells aS.toArray 378 (0,0)⟩] _ (eN (l₁:=[_,_])) (uN g G2 _ (by have:=GZ (t.ns[j].k.toNat*3+1);show _+(sC (t.ns[j].k.toNat*3+1)).length<=_;omega)) ?_;rintro v ql rj -⟨rfl,rfl,z,u2,aiE,rfl⟩;have tu:z.ch=x.ch++DV t.ns[j]:=aiE;refine cY.draw a0 rfl rfl rfl ?_;refine aU.mk _ (dm (T:=88) (b:=b6) (cs:=t.ns[j].cells) (k:=8) (n:=1) am (bJ rfl)) ?_;refine aU.mk [.int .i64 i] (nC (b:=c0) (cs:=aS) (T:=378) gc sE) ?_;refine bt.mk gn i fk rfl dN ?_;refine aU.mk [.int .i64 (q:Nat)] Id ?_;refine aU.mk [.int .i64 i] (nC (b:=c0) (cs:=aS) (T:=378) gc sE) ?_;refine be.mk ((i+1:Nat):Int) gN ?_;refine b4.zw (z.M g++[⟨b6,.cells t.ns[j].cells.toArray 88 (0,0)⟩]) [] aS.toArray 378 gc ?_ rfl ?_;·simp only[s5];show(n-1)*3+1+1<=_;omega
   refine cY.draw a0 rfl rfl rfl ?_;refine aU.mk [.int .u8 t.ns[j].k] (dm (T:=88) (b:=b6) (cs:=t.ns[j].cells) (k:=0) (n:=1) am (bJ rfl)) ?_;refine bt.mk rz q xY rfl ry ?_;refine aU.mk [.int .u8 t.ns[q].k] (x0 _) ?_;refine ev.mk _ (O1 t.ns[j].k t.ns[q].k) ?_;rintro v G4 qm -⟨rfl,rfl,rfl⟩;refine bQ.mk λb9 mU BR=>?_;refine bC.append a0 rfl am (e:=378) rfl rfl rfl ⟨some c0,n,fl,cd aS ((n-1)*3+1) [.int .i64 ((i+1:Nat):Int)]⟩ (xs:=pI (hV++[(j,i+1,w)])) BQ rfl (m:=1) rfl (b8:=nF (q,0,ht t.ns[j].k t.ns[q].k)) bv (dm (b:=b9) (cs:=nF (q,0,ht t.ns[j].k t.ns[q].k)) (k:=0) (n:=3) (T:=378) (.head _) (bJ rfl)) rfl (Mr:=⟨b9,.cells (nF (q,0,ht t.ns[j].k t.ns[q].k)).toArray 378 (0,0)⟩::(z.M g++[⟨b6,.cells t.ns[j].cells.toArray 88 (0,0)⟩])) (by exact eN (l₁:=(⟨b9,.cells (nF (q,0,ht t.ns[j].k t.ns[q].k)).toArray 378 (0,0)⟩:aA)::(z.M g++[⟨b6,.cells t.ns[j].cells.toArray 88 (0,0)⟩])) (l₂:=[⟨c0,.cells (cd aS ((n-1)*3+1) [.int .i64 ((i+1:Nat):Int)]).toArray 378 (0,0)⟩])) ww axT ?_;intro ei c' j3 eg eV e0 iZ;refine⟨(g,z,⟨some ei,n+1,c',j3⟩,hV++[(j,i+1,w)]++[(q,0,ht t.ns[j].k t.ns[q].k)],_),aI _ ⟨bn,u2,⟨?_,(λh=>ci),λbW _=>⟨eg,eV,e0,?_⟩⟩,am,?_,?_,?_⟩ ?_,.perm (M1:=[⟨b9,.cells (nF (q,0,ht t.ns[j].k t.ns[q].k)).toArray 378 (0,0)⟩,⟨b6,.cells t.ns[j].cells.toArray 88 (0,0)⟩]++(⟨ei,.cells j3.toArray 378 (0,0)⟩::z.M g)) (Pl _ _ _ _) (.sub (mL _ _) .refl),fQ,.cons rfl .nil⟩;·show _=(n+1)*3;rw[G0];simp;omega
   ·show j3.take ((n+1)*3)=_;rw[BO (hV++[(j,i+1,w)])];exact iZ
   ·intro e he;simp only[c1,eL]at he;rcases he with(he | rfl) | rfl
    ·exact fv e abs
    ·exact ah
    ·exact iH
   ·simp only;rw[BM,BM,tu,<-n5,i'];rw[show decide (0<(i:Int))=true from bg,show oI ay t.ns (j,i,w)=[]from by simp only[oI,aa,cD]];simp
   ·simp only;rw[sD,sD];omega
   ·simp only;rw[sD,sD];omega
  ·have dN:t.ns[j].ap.length<=i:=by simp at ae;omega
   have aiF:=Pj (ay:=ay) ah (w:=w) dN;have i':uY ay t.ns (j,i,w)=pH t.ns[j]++(bif w then [41]else []):=by rw[aiF];simp only[oI,aa,cD,hI]
   have kA:=KB t.ns[j];refine aU.mk _ (dm (T:=88) (b:=b6) (cs:=t.ns[j].cells) (k:=0) (n:=9) (.head _) (bJ rfl)) ?_;refine a8.mk [] (⟨b6,.cells t.ns[j].cells.toArray 88 (0,0)⟩::⟨c0,.cells aS.toArray 378 (0,0)⟩::x.M g) _ (.refl _) (Pd hK.c hK.p hK.s ru sg) ?_;rintro v G4 qm -⟨rfl,rfl,rfl⟩;refine a8.mk (x.M g) [⟨b6,.cells t.ns[j].cells.toArray 88 (0,0)⟩,⟨c0,.cells aS.toArray 378 (0,0)⟩] _ (eN (l₁:=[_,_])) (uN g G2 _ AC) ?_;rintro v WU WV -⟨rfl,rfl,a,a7,lf,rfl⟩;have WW:a.ch.length<=2412*t.ns.length+2410:=by rw[lf,cn];show _+(pH t.ns[j]).length<=_;omega
   refine aU.mk [.bool w] (nC (b:=c0) (cs:=aS) (T:=378) gc KG) ?_;refine aZ.mk (λhw=>?_) (λhw=>?_)
   ·subst hw;refine a8.mk (a.M g) [⟨b6,.cells t.ns[j].cells.toArray 88 (0,0)⟩,⟨c0,.cells aS.toArray 378 (0,0)⟩] _ am (pC g a7 41 Z) ?_;rintro v WX qu -⟨rfl,rfl,c,ao,lL,rfl⟩;refine be.mk (((n-1:Nat)):Int) nG ?_;refine kY.mk 0 (n-1) rfl rfl (dQ _) i3 ?_;refine aZ.mk (λbg=>?_) (λbg=>?_)
    ·have gL:0<n-1:=by simp at bg;omega
     refine⟨(g,c,⟨some c0,n-1,fl,aS⟩,hV,_),aI _ ⟨bn,ao,⟨?_,(λh=>ci),λbW _=>⟨dp,i3,lP,?_⟩⟩,?_,λe he=>fv e abs,?_,?_⟩ ?_,.perm (M1:=[⟨b6,.cells t.ns[j].cells.toArray 88 (0,0)⟩]++(⟨c0,.cells aS.toArray 378 (0,0)⟩::c.M g)) (eN (l₂:=[_,_])) (.sub (mL _ _) .refl),fQ,.cons rfl .nil⟩;·exact gx
     ·show aS.take ((n-1)*3)=_;rw[nD,<-gx];exact st rfl
     ·intro h;simp only at h;rw[h]at gY;simp at gY;omega
     ·simp only;rw[lL,lf,<-n5,i'];simp[strOf]
     ·simp only;omega
     ·simp only[n4];omega
    ·have gL:n-1=0:=by simp at bg;omega
     have u1:hV=[]:=im Z;have oJ:c.ch=kI ay t.ns t.bx:=by rw[lL,lf,<-n5,i',u1];simp[uZ,strOf]
     refine a8.mk (c.M g) [⟨b6,.cells t.ns[j].cells.toArray 88 (0,0)⟩,⟨c0,.cells aS.toArray 378 (0,0)⟩] _ am (xQ g ao ai') ?_;rintro v G5 G6 -⟨rfl,rfl,rfl⟩;refine⟨_,_,.sub (fs _) .refl,?_,bn,rfl⟩;rw[oJ];rfl
   ·subst hw;refine be.mk (((n-1:Nat)):Int) nG ?_;refine kY.mk 0 (n-1) rfl rfl (dQ _) i3 ?_;refine aZ.mk (λbg=>?_) (λbg=>?_)
    ·have gL:0<n-1:=by simp at bg;omega
     refine⟨(g,a,⟨some c0,n-1,fl,aS⟩,hV,_),aI _ ⟨bn,a7,⟨?_,(λh=>ci),λbW _=>⟨dp,i3,lP,?_⟩⟩,?_,λe he=>fv e abs,?_,?_⟩ ?_,.perm (M1:=[⟨b6,.cells t.ns[j].cells.toArray 88 (0,0)⟩]++(⟨c0,.cells aS.toArray 378 (0,0)⟩::a.M g)) (eN (l₂:=[_,_])) (.sub (mL _ _) .refl),fQ,.cons rfl .nil⟩;·exact gx
     ·show aS.take ((n-1)*3)=_;rw[nD,<-gx];exact st rfl
     ·intro h;simp only at h;rw[h]at gY;simp at gY;omega
     ·simp only;rw[lf,<-n5,i'];simp[strOf]
     ·simp only;omega
     ·simp only[n4];omega
    ·have gL:n-1=0:=by simp at bg;omega
     have u1:hV=[]:=im Z;have oJ:a.ch=kI ay t.ns t.bx:=by rw[lf,<-n5,i',u1];simp[uZ,strOf]
     refine a8.mk (a.M g) [⟨b6,.cells t.ns[j].cells.toArray 88 (0,0)⟩,⟨c0,.cells aS.toArray 378 (0,0)⟩] _ am (xQ g a7 ai') ?_;rintro v G5 G6 -⟨rfl,rfl,rfl⟩;refine⟨_,_,.sub (fs _) .refl,?_,bn,rfl⟩;rw[oJ];rfl
def WY{c:Code}{K:jC}{t1 t2 t3:Nat}{a b d:dx}{e:Option (List Value)}(h:∀ G BP,V X c (gS (gS (gS G t3 d) t2 b) t1 a) (jl BP t1 e) I M K)
  (aa:F t1=a) (ad:F t2=b) (aj:F t3=d) (aJ:C t1=e):V X c F C I M K:=by
 have:=h F C;rwa [Pk aj,Pk ad,Pk aa,aiA aJ]at this
def aiG(a6:en I ay)(au:t.ok I)(aC:t.n<=1024):Spec Tryz.prog 343 [t.val] I [] λr I' M'=>r=.string (strOf (nE ay t))/\(∀ b o,I b=some o->I' b=some o)/\M'=[]:=by
 refine bU [3] a0 Tryz.func343 rfl rfl rfl ?_;intro B ax;have pw:=au.n;cases af:right t with
 |true=>
  have BS:nE ay t=kI ay t.ns t.bx:=by simp[nE,af]
  rw[BS];have pB:=kE af;obtain⟨r,rp⟩:=eh pB.1;have eD:r<t.ns.length:=by omega
  obtain⟨ns,wB,x1,zF,bx⟩:=t;simp only at rp;subst rp;have rp:(⟨ns,wB,x1,zF,Int.ofNat r⟩:bs).bx=Int.ofNat r:=rfl;refine cY.scope a0 rfl (λy:Nat×G1=>WO ⟨ns,wB,x1,zF,Int.ofNat r⟩ y.1 y.2) (λ_=>0) (λy=>KF I ay ⟨ns,wB,x1,zF,Int.ofNat r⟩ y.2) (λy=>wA ns y.2.2.2.1) (λ_=>WN (KE (Tryz.f343.body.getD .skip)) 0) (λ_ _=>⟨d0,d0⟩) ?_ ?_
  ·refine a8.mk [] [] _ (.refl _) (nx a6.c au) ?_;rintro v I' M' -⟨rfl,rfl,rfl⟩;rw[af];refine aZ.mk (λh=>ci) (λ_=>?_);refine bQ.mk λg aw DH=>?_;refine bQ.mk λfu DY awQ=>?_;refine WY (t1:=1) (t2:=3) (t3:=4) (λG BP=>WQ a6 au af aC (p:=λl y=>KF _ ay ⟨ns,wB,x1,zF,Int.ofNat r⟩ y.2/\0=l) (g:=g) (gp.new,⟨some fu,1,1,nF (r,0,false)⟩,[(r,0,false)],I') ?_ (λy aG _=>⟨aG,rfl⟩) B ax G BP) rfl rfl rfl rfl;refine⟨λ_ _ h=>h,gp.Kr,⟨rfl,(λh=>ci),λbW _=>⟨rfl,cc _,rt,rfl⟩⟩,am,?_,?_,?_⟩
   ·intro e he;simp only[eL]at he;subst he;exact eD
   ·simp only[uZ,zz,iA,Pa,dK];have dT:=WL (ay:=ay) af eD false;simp only at dT |-;rw[dT];simp[gp.new,paren]
   ·have aa:=WM af eD false;have ad:=aiz af;simp only[BI]at aa ad;simp only[wA,b0,hs,hr,BK];omega
  ·rintro⟨g,x⟩ab;refine WY (t1:=1) (t2:=3) (t3:=4) (λG BP=>WQ a6 au af aC (g:=g) x ab (λy aG a1=>⟨⟨aG,rfl⟩,a1⟩) B ax G BP) rfl rfl rfl rfl
 |false=>
  have BS:nE ay t=[]:=by simp[nE,af]
  rw[BS];refine cY.scope a0 rfl (ι:=Empty) (λe=>nomatch e) (λe=>nomatch e) (λe=>nomatch e) (λe=>nomatch e) (λ_=>.skip) (λe=>nomatch e) ?_ (λe=>nomatch e);refine a8.mk [] [] _ (.refl _) (nx a6.c au) ?_;rintro v I' M' -⟨rfl,rfl,rfl⟩;rw[af];refine aZ.mk (λ_=>?_) (λh=>ci);exact⟨_,_,.refl,rfl,λ_ _ h=>h,rfl⟩
def a3.val(d:a3):Value:=.agg #[.string d.name,.slice d.t.a d.t.n d.t.c,.int .i64 d.t.bx]
def qv(ay:List Int)(d:a3):List UInt8:=
 bif decide (strOf (nE ay d.t)=⟨#[]⟩) || !nv d.name then []else d.name.data.toList++[32,60,45,32]++nE ay d.t++[10]
def WZ{s:ByteArray}(h:nv s=true):s.size<=32:=by unfold nv at h;simp only[cC,h3]at h;omega
def aiH(ay:List Int)(d:a3):(qv ay d).length<=37+2412*d.t.ns.length:=by
 have aa:=WH ay d.t;unfold qv;cases ao:(decide (strOf (nE ay d.t)=⟨#[]⟩) || !nv d.name)with
 |true=>simp| false=>simp only[tk,Bool.not_eq_false']at ao;have ad:=WZ ao.2;have aj:d.name.data.toList.length=d.name.size:=rfl;simp only[cD,cn,ep,hj];omega
def aiI(a6:en I ay){d:a3}(ai:d.ok I)(aC:d.t.n<=1024):Spec Tryz.prog 327 [d.val] I [] λr I' M'=>r=.string (strOf (qv ay d))/\(∀ b o,I b=some o->I' b=some o)/\M'=[]:=by
 refine bU [] a0 Tryz.func327 rfl rfl rfl ?_;intro B ax;refine a8.mk [] [] _ (.refl _) (aiG a6 ai.t aC) ?_;rintro v I1 M1 -⟨rfl,c8,rfl⟩;refine b5.mk (λaa=>?_) (λaa=>?_)
 ·refine a8.mk [] [] _ (.refl _) (OQ _ d.name) ?_;rintro v I' M' -⟨rfl,rfl,rfl⟩;refine aZ.mk (λad=>?_) (λad=>?_)
  ·refine⟨_,_,.refl,?_,c8,rfl⟩;have:qv ay d=[]:=by unfold qv;rw[aa,ad];rfl
   rw[this];rfl
  ·have hm:nv d.name=true:=by simpa using ad
   have ad:=WZ hm;have aj:d.name.data.toList.length=d.name.size:=rfl;have aJ:=WH ay d.t;have bD:=ai.t.n;refine fL.concat (a:=d.name) (b:=strOf [32,60,45,32]) (by show _+4<=_;omega) ?_;refine fL.concat (a:=d.name++strOf [32,60,45,32]) (b:=strOf (nE ay d.t)) (by rw[Kw];show _+4+(nE ay d.t).length<=_;omega) ?_;refine fL.concat (a:=d.name++strOf [32,60,45,32]++strOf (nE ay d.t)) (b:=strOf [10]) (by rw[Kw,Kw];show _+4+(nE ay d.t).length+1<=_;omega) ?_;refine⟨_,_,.refl,?_,c8,rfl⟩;refine congrArg Value.string (DJ ?_);rw[qv,aa,hm];simp[strOf]
 ·refine⟨_,_,.refl,?_,c8,rfl⟩;have:qv ay d=[]:=by unfold qv;rw[aa];rfl
  rw[this];rfl
def qw(ay:List Int):List a3->List UInt8->List UInt8
 |[],a5=>a5| d::ds,a5=>bif decide (strOf (qv ay d)=⟨#[]⟩)then []else qw ay ds (a5++qv ay d)
def aiJ(a6:en I ay){g:cE}(aw:g.ok I)(aC:g.n<=64)(au:∀ d∈g.ds,d.t.n<=1024):Spec Tryz.prog 292 [g.val] I [] λr I' M'=>r=.string (strOf (qw ay g.ds []))/\(∀ b o,I b=some o->I' b=some o)/\M'=[]:=by
 refine bU [3] a0 Tryz.func292 rfl rfl rfl ?_;intro B ax;have ic:=aw.n;have zD:∀ d∈g.ds,d.t.ns.length<=1024:=λd ai=>by rw[(aw.ds d ai).t.n];exact au d ai
 refine bQ.mk λb ag wu=>?_;refine du.inv (ι:=Nat×gp×aH) (λp=>{ bp:=[(3,.val (ptr b)),(8,.val (.slice g.a g.n g.c)),(9,.val (.int .i64 g.n)),(10,.val (.int .i64 p.1))],cO:=p.2.2,c5:=p.2.1.M b }) (λp=>p.1<=g.n/\p.2.1.ok/\(∀ b o,I b=some o->p.2.2 b=some o)/\p.2.1.ch.length<=2500000*p.1/\qw ay g.ds []=qw ay (g.ds.drop p.1) p.2.1.ch) (λp=>g.n-p.1) ?_ ?_
 ·exact⟨(0,gp.new,I),⟨am,gp.Kr,λ_ _ h=>h,by simp[gp.new],rfl⟩,.refl,dM,.nil⟩
 ·rintro⟨i,x,I1⟩⟨hi,ab,c8,kG,kg⟩;simp only at hi ab c8 kG kg;refine aZ.mk (λh=>?_) (λh=>?_)
  ·have a1:i<g.n:=by simpa using h
   have cI:i<g.ds.length:=by omega
   have tA:=aw.mono c8;obtain⟨aR,bI,bo⟩:=tA.bb.row a3.cL a1 cI;have g6:g.ds[i]∈g.ds:=bK cI;have zG:=aiH ay g.ds[i];have dT:=zD _ g6;have lQ:g.ds.drop i=g.ds[i]::g.ds.drop (i+1):=e2 cI;refine bt.mk aR i bI rfl a1 ?_;refine aU.mk _ (bo _) ?_;refine a8.mk [] (x.M b) _ (.refl _) (aiI (a6.mono c8) (tA.ds _ g6) (au _ g6)) ?_;rintro v ew dv -⟨rfl,gq,rfl⟩;refine aZ.mk (λaa=>?_) (λaa=>?_);·refine⟨_,_,.sub (fs _) .refl,?_,λb o h=>gq _ _ (c8 _ _ h),rfl⟩;rw[kg,lQ,qw,aa];rfl
   ·refine a8.mk (x.M b) [] _ am (uN b ab _ (by show _+(qv ay g.ds[i]).length<=_;omega)) ?_;rintro v I' M' -⟨rfl,rfl,y,aG,gX,rfl⟩;have W0:y.ch=x.ch++qv ay g.ds[i]:=gX;have gN:IntKind.i64.wrap ((i:Int)+1)=((i+1:Nat):Int):=by rw[wrap_i64 ⟨Z,Z⟩];omega
    refine be.mk _ gN ?_;refine⟨(i+1,y,_),⟨⟨ce,aG,λb o h=>gq _ _ (c8 _ _ h),?_,?_⟩,ce⟩,.perm am .refl,dM,.nil⟩;·simp only;rw[W0,cn];omega
    ·simp only;rw[kg,lQ,qw,aa,W0];rfl
  ·have cV:g.n<=i:=by simpa using h
   have jm:g.ds.drop i=[]:=mc Z;refine a8.mk (x.M b) [] _ am (xQ b ab Z) ?_;rintro v I' M' -⟨rfl,rfl,rfl⟩;refine⟨_,_,.refl,?_,c8,am⟩;rw[kg,jm];rfl
def aiK(a6:en I ay){g:cE}(aw:g.ok I)(aC:g.n<=64)(au:∀ d∈g.ds,d.t.n<=1024):Spec Tryz.prog 222 [g.val] I [] λr I' M'=>r=.int .i64 ((qw ay g.ds []).length:Int)/\(∀ b o,I b=some o->I' b=some o)/\M'=[]:=by refine bU [] a0 Tryz.func222 rfl rfl rfl ?_;intro B ax;refine a8.mk [] [] _ (.refl _) (aiJ a6 aw aC au) ?_;rintro v I' M' -⟨rfl,bE,rfl⟩;exact⟨_,_,.refl,rfl,bE,rfl⟩
def kh(ns:List al)(kind:Int):List Int->Bool
 |[]=>true| k::ks=>bif decide (iq ns k=kind)||(decide (iq ns k=0)&&decide (kind=4))then false else kh ns kind ks
def kJ(ns:List al):List al->Bool
 |[]=>true| d::ds=>bif !decide (d.k=4) && !decide (d.k=5)then kJ ns ds else bif kh ns d.k d.ap then kJ ns ds else false
def normal(t:bs):Bool:=right t&&kJ t.ns t.ns
def c9(h:i<=140737488355328):IntKind.i64.wrap ((i:Int)+1)=((i+1:Nat):Int):=by rw[wrap_i64 ⟨Z,Z⟩];omega
def aiL(ao:mR I)(au:t.ok I):Spec Tryz.prog 147 [t.val] I [] (λv I' M'=>v=.bool (normal t)/\I'=I/\M'=[]):=by
 refine bU [] a0 Tryz.func147 rfl rfl rfl ?_;intro B ax;have aC:=au.n;have hk:=au.bb.cap;refine a8.mk [] [] _ (.refl _) (nx ao au) ?_;rintro v I' M' -⟨rfl,rfl,rfl⟩;refine aZ.mk (λh=>?_) (λh=>?_)
 ·refine⟨_,_,.refl,?_,rfl,rfl⟩;simp[normal,show right t=false by simpa using h]
 ·have af:right t=true:=by simpa using h
  have ed:normal t=kJ t.ns t.ns:=by simp[normal,af]
  rw[ed];refine du.inv (ι:=Nat) (λi=>{ bp:=[(1,.ref 1 0),(12,.val (.slice t.a t.n t.c)),(13,.val (.int .i64 t.n)),(14,.val (.int .i64 i))],cl:=[(1,t.cells)],cO:=I' }) (λi=>i<=t.n/\kJ t.ns t.ns=kJ t.ns (t.ns.drop i)) (λi=>t.n-i) ?_ ?_;·exact⟨0,⟨am,rfl⟩,.refl,dM,.cons rfl .nil⟩
  ·rintro i⟨hi,fv⟩;refine aZ.mk (λh=>?_) (λh=>?_)
   ·have a1:i<t.n:=by simpa using h
    have cI:i<t.ns.length:=by omega
    obtain⟨aR,bI,bo⟩:=au.bb.row al.cL a1 cI;have gm:=au.ns t.ns[i] (bK cI);have fh:=gm.aF;have lQ:t.ns.drop i=t.ns[i]::t.ns.drop (i+1):=e2 cI;refine bt.mk aR i bI rfl a1 ?_;refine aU.mk _ (bo _) ?_;refine b5.mk (λeQ=>?_) (λeQ=>?_)
    ·refine aZ.mk (λcZ=>?_) (λcZ=>?_)
     ·refine be.mk _ (c9 (i:=i) Z) ?_;refine⟨i+1,⟨⟨Z,?_⟩,Z⟩,.refl,dM,.cons rfl .nil⟩;rw[fv,lQ,kJ,eQ,cZ];rfl
     ·have iG:kJ t.ns t.ns=bif kh t.ns t.ns[i].k t.ns[i].ap then kJ t.ns (t.ns.drop (i+1))else false:=by rw[fv,lQ,kJ,eQ,cZ];rfl
      refine du.inv (ι:=Nat) (λj=>{ bp:=[(1,.ref 1 0),(4,.ref 4 0),(12,.val (.slice t.a t.n t.c)),(13,.val (.int .i64 t.n)),(14,.val (.int .i64 i)),(27,.val (.slice t.ns[i].ca t.ns[i].aF t.ns[i].cr)),(28,.val (.int .i64 t.ns[i].aF)),(29,.val (.int .i64 j))],cl:=[(1,t.cells),(4,t.ns[i].cells)],cO:=I' }) (λj=>j<=t.ns[i].aF/\kh t.ns t.ns[i].k t.ns[i].ap=kh t.ns t.ns[i].k (t.ns[i].ap.drop j)) (λj=>t.ns[i].aF-j) ?_ ?_;·exact⟨0,⟨am,rfl⟩,.refl,ku,.cons rfl (.cons rfl .nil)⟩
      ·rintro j⟨ah,mV⟩;refine aZ.mk (λh=>?_) (λh=>?_)
       ·have gi:j<t.ns[i].aF:=by simpa using h
        have oF:j<t.ns[i].ap.length:=by omega
        obtain⟨gn,fk,fc⟩:=gm.bb.one gi oF;have jE:t.ns[i].ap.drop j=t.ns[i].ap[j]::t.ns[i].ap.drop (j+1):=e2 oF;have e5:=lb af i cI _ (bK oF);generalize hJ:t.ns[i].ap[j]=aiM at *;obtain⟨q,rfl⟩:=eh e5.1;have iH:q<t.ns.length:=by omega
        have ry:q<t.n:=by omega
        obtain⟨rz,xY,xZ⟩:=au.bb.row al.cL ry iH;have x0:∀ M,c6 I' M ((rz.add (q*9)).add 0) 1 [.int .u8 t.ns[q].k]:=λM=>(xZ M).part (k:=0) (m:=1) bv;have u0:iq t.ns ((q:Nat):Int)=t.ns[q].k:=by simp[iq,bT,iH]
        have bad:(decide (t.ns[q].k=t.ns[i].k)||(decide (t.ns[q].k=0)&&decide (t.ns[i].k=4)))=true->kJ t.ns t.ns=false:=λag=>by rw[iG,mV,jE,kh,u0,ag];rfl
        have BT:(decide (t.ns[q].k=t.ns[i].k)||(decide (t.ns[q].k=0)&&decide (t.ns[i].k=4)))=false->kh t.ns t.ns[i].k t.ns[i].ap=kh t.ns t.ns[i].k (t.ns[i].ap.drop (j+1)):=λag=>by rw[mV,jE,kh,u0,ag];rfl
        have gN:=c9 (i:=j) act;refine bt.mk gn j fk rfl gi ?_;refine aU.mk _ (fc _) ?_;refine bt.mk rz q xY rfl ry ?_;refine aU.mk _ (x0 _) ?_;refine b5.mk (λfP=>?_) (λfP=>?_)
        ·refine b5.mk (λfr=>?_) (λfr=>?_)
         ·refine aZ.mk (λkK=>?_) (λkK=>?_)
          ·refine⟨_,_,.refl,?_,rfl,rfl⟩;rw[bad av']
          ·refine be.mk _ gN ?_;exact⟨j+1,⟨⟨Z,BT av'⟩,Z⟩,.refl,ku,.cons rfl (.cons rfl .nil)⟩
         ·refine be.mk _ gN ?_;exact⟨j+1,⟨⟨Z,BT (by rw[fP,fr];rfl)⟩,Z⟩,.refl,ku,.cons rfl (.cons rfl .nil)⟩
        ·refine⟨_,_,.refl,?_,rfl,rfl⟩;rw[bad (by rw[fP];rfl)]
       ·have Bz:t.ns[i].ap.drop j=[]:=mc (by simp at h;omega);refine be.mk _ (c9 (i:=i) Z) ?_;refine⟨i+1,⟨⟨Z,?_⟩,Z⟩,.refl,dM,.cons rfl .nil⟩;rw[iG,mV,Bz];rfl
    ·have iG:kJ t.ns t.ns=bif kh t.ns t.ns[i].k t.ns[i].ap then kJ t.ns (t.ns.drop (i+1))else false:=by rw[fv,lQ,kJ,eQ];rfl
     refine du.inv (ι:=Nat) (λj=>{ bp:=[(1,.ref 1 0),(4,.ref 4 0),(12,.val (.slice t.a t.n t.c)),(13,.val (.int .i64 t.n)),(14,.val (.int .i64 i)),(27,.val (.slice t.ns[i].ca t.ns[i].aF t.ns[i].cr)),(28,.val (.int .i64 t.ns[i].aF)),(29,.val (.int .i64 j))],cl:=[(1,t.cells),(4,t.ns[i].cells)],cO:=I' }) (λj=>j<=t.ns[i].aF/\kh t.ns t.ns[i].k t.ns[i].ap=kh t.ns t.ns[i].k (t.ns[i].ap.drop j)) (λj=>t.ns[i].aF-j) ?_ ?_;·exact⟨0,⟨am,rfl⟩,.refl,ku,.cons rfl (.cons rfl .nil)⟩
     ·rintro j⟨ah,mV⟩;refine aZ.mk (λh=>?_) (λh=>?_)
      ·have gi:j<t.ns[i].aF:=by simpa using h
       have oF:j<t.ns[i].ap.length:=by omega
       obtain⟨gn,fk,fc⟩:=gm.bb.one gi oF;have jE:t.ns[i].ap.drop j=t.ns[i].ap[j]::t.ns[i].ap.drop (j+1):=e2 oF;have e5:=lb af i cI _ (bK oF);generalize hJ:t.ns[i].ap[j]=aiM at *;obtain⟨q,rfl⟩:=eh e5.1;have iH:q<t.ns.length:=by omega
       have ry:q<t.n:=by omega
       obtain⟨rz,xY,xZ⟩:=au.bb.row al.cL ry iH;have x0:∀ M,c6 I' M ((rz.add (q*9)).add 0) 1 [.int .u8 t.ns[q].k]:=λM=>(xZ M).part (k:=0) (m:=1) bv;have u0:iq t.ns ((q:Nat):Int)=t.ns[q].k:=by simp[iq,bT,iH]
       have bad:(decide (t.ns[q].k=t.ns[i].k)||(decide (t.ns[q].k=0)&&decide (t.ns[i].k=4)))=true->kJ t.ns t.ns=false:=λag=>by rw[iG,mV,jE,kh,u0,ag];rfl
       have BT:(decide (t.ns[q].k=t.ns[i].k)||(decide (t.ns[q].k=0)&&decide (t.ns[i].k=4)))=false->kh t.ns t.ns[i].k t.ns[i].ap=kh t.ns t.ns[i].k (t.ns[i].ap.drop (j+1)):=λag=>by rw[mV,jE,kh,u0,ag];rfl
       have gN:=c9 (i:=j) act;refine bt.mk gn j fk rfl gi ?_;refine aU.mk _ (fc _) ?_;refine bt.mk rz q xY rfl ry ?_;refine aU.mk _ (x0 _) ?_;refine b5.mk (λfP=>?_) (λfP=>?_)
       ·refine b5.mk (λfr=>?_) (λfr=>?_)
        ·refine aZ.mk (λkK=>?_) (λkK=>?_)
         ·refine⟨_,_,.refl,?_,rfl,rfl⟩;rw[bad av']
         ·refine be.mk _ gN ?_;exact⟨j+1,⟨⟨Z,BT av'⟩,Z⟩,.refl,ku,.cons rfl (.cons rfl .nil)⟩
        ·refine be.mk _ gN ?_;exact⟨j+1,⟨⟨Z,BT (by rw[fP,fr];rfl)⟩,Z⟩,.refl,ku,.cons rfl (.cons rfl .nil)⟩
       ·refine⟨_,_,.refl,?_,rfl,rfl⟩;rw[bad (by rw[fP];rfl)]
      ·have Bz:t.ns[i].ap.drop j=[]:=mc (by simp at h;omega);refine be.mk _ (c9 (i:=i) Z) ?_;refine⟨i+1,⟨⟨Z,?_⟩,Z⟩,.refl,dM,.cons rfl .nil⟩;rw[iG,mV,Bz];rfl
   ·have cV:t.n<=i:=by simpa using h
    have jm:t.ns.drop i=[]:=mc Z;refine⟨_,_,.refl,?_,rfl,rfl⟩;rw[fv,jm];rfl
def sG(t:bs):Nat:=bif right t then t.n else 0
def u3(g:cE):Nat:=(g.ds.map λd=>sG d.t).sum
def W1{α:Type}(f:α->Nat)(m:Nat):∀ (l:List α),(∀ x∈l,f x<=m)->(l.map f).sum<=m*l.length
 |[],_=>by simp
 |x::l,h=>by have aa:=h x am;have ad:=W1 f m l λy aG=>h y au';simp only[b0,hr,ep,Nat.mul_add];omega
def aiN(ao:mR I){g:cE}(aw:g.ok I)(aC:g.n<=64)(au:∀ d∈g.ds,d.t.n<=1024):Spec Tryz.prog 221 [g.val] I [] (λv I' M'=>v=.int .i64 (u3 g:Nat)/\I'=I/\M'=[]):=by
 refine bU [] a0 Tryz.func221 rfl rfl rfl ?_;intro B ax;have ic:=aw.n;refine du.inv (ι:=Nat) (λi=>{ bp:=[(3,.val (.int .i64 (((g.ds.take i).map λd=>sG d.t).sum:Nat))),(7,.val (.slice g.a g.n g.c)),(8,.val (.int .i64 g.n)),(9,.val (.int .i64 i))],cO:=I }) (λi=>i<=g.n) (λi=>g.n-i) ?_ ?_
 ·exact⟨0,am,.refl,dM,.nil⟩
 ·intro i hi;refine aZ.mk (λh=>?_) (λh=>?_)
  ·have a1:i<g.n:=by simpa using h
   have cI:i<g.ds.length:=by omega
   obtain⟨aR,bI,bo⟩:=aw.bb.row a3.cL a1 cI;have g6:g.ds[i]∈g.ds:=bK cI;have av:((g.ds.take i).map λd=>sG d.t).sum<=1024*(g.ds.take i).length:=W1 _ 1024 _ λd ai=>by
    have:=au d (uU ai);unfold sG;cases right d.t<;>simp
    omega
   have az:=Dw i g.ds;have gw:sG g.ds[i].t<=1024:=by
    have:=au _ g6;unfold sG;cases right g.ds[i].t<;>simp
    omega
   refine bt.mk aR i bI rfl a1 ?_;refine aU.mk _ (bo _) ?_;refine a8.mk [] [] _ (.refl _) (ahR ao (aw.ds _ g6).t) ?_;rintro v I' M' -⟨rfl,rfl,rfl⟩;have aK:(bif right g.ds[i].t then(g.ds[i].t.n:Int)else 0)=(sG g.ds[i].t:Nat):=by
    unfold sG;cases right g.ds[i].t<;>rfl
   rw[aK];refine be.mk ((((g.ds.take (i+1)).map λd=>sG d.t).sum:Nat):Int) ?_ ?_;·rw[wrap_i64 ⟨Z,Z⟩,gk cI,cR,pG];simp
   refine be.mk _ (c9 (i:=i) Z) ?_;exact⟨i+1,⟨Z,Z⟩,.refl,dM,.nil⟩
  ·have cV:g.n<=i:=by simpa using h
   refine⟨_,_,.refl,?_,rfl,rfl⟩;rw[fD Z];rfl
def pJ(ay:List Int)(g:cE):Bool:=
 decide (64<g.n)||((!g.ds.all λd=>pA d.t)||(decide (1024<u3 g)||decide (8192<(qw ay g.ds []).length)))
def aiO(a6:en I ay){g:cE}(aw:g.ok I):Spec Tryz.prog 148 [g.val] I [] (λv I' M'=>v=.bool (pJ ay g)/\(∀ b o,I b=some o->I' b=some o)/\M'=[]):=by
 refine bU [] a0 Tryz.func148 rfl rfl rfl ?_;intro B ax;have ic:=aw.n;refine aZ.mk (λaa=>?_) (λaa=>?_)
 ·refine⟨_,_,.refl,?_,λ_ _ h=>h,rfl⟩;have:64<g.n:=by simp at aa;omega
  simp[pJ,this]
 ·have aC:g.n<=64:=by simp at aa;omega
  have eB:pJ ay g=((!g.ds.all λd=>pA d.t)||(decide (1024<u3 g)||decide (8192<(qw ay g.ds []).length))):=by
   have:¬ 64<g.n:=by omega
   simp[pJ,this]
  rw[eB];refine du.inv (ι:=Nat) (λi=>{ bp:=[(1,.ref 1 0),(10,.val (.slice g.a g.n g.c)),(11,.val (.int .i64 g.n)),(12,.val (.int .i64 i))],cl:=[(1,[.slice g.a g.n g.c])],cO:=I }) (λi=>i<=g.n/\(g.ds.take i).all (λd=>pA d.t)=true) (λi=>g.n-i) ?_ ?_;·exact⟨0,⟨am,rfl⟩,.refl,dM,.cons rfl .nil⟩
  ·rintro i⟨hi,eG⟩;refine aZ.mk (λh=>?_) (λh=>?_)
   ·have a1:i<g.n:=by simpa using h
    have cI:i<g.ds.length:=by omega
    obtain⟨aR,bI,bo⟩:=aw.bb.row a3.cL a1 cI;have g6:g.ds[i]∈g.ds:=bK cI;refine bt.mk aR i bI rfl a1 ?_;refine aU.mk _ (bo _) ?_;refine a8.mk [] [] _ (.refl _) (ahV a6.c (aw.ds _ g6).t) ?_;rintro v I' M' -⟨rfl,rfl,rfl⟩;refine aZ.mk (λad=>?_) (λad=>?_)
    ·refine⟨_,_,.refl,?_,λ_ _ h=>h,rfl⟩;have aE:pA g.ds[i].t=false:=by simpa using ad
     have:(g.ds.all λd=>pA d.t)=false:=by rw[Kx];exact⟨_,g6,by simp[aE]⟩
     rw[this];rfl
    ·have aE:pA g.ds[i].t=true:=by simpa using ad
     refine be.mk _ (c9 (i:=i) Z) ?_;refine⟨i+1,⟨⟨Z,?_⟩,Z⟩,.refl,dM,.cons rfl .nil⟩;rw[gk cI,GV,eG];simp[aE]
   ·have cV:g.n<=i:=by simpa using h
    rw[fD Z]at eG;rw[eG];have zH:∀ d∈g.ds,d.t.n<=1024:=λd ai=>by have:=fN.1 eG d ai;unfold pA at this;simp only[cC,h3]at this;exact this.1
    refine a8.mk [] [] _ (.refl _) (aiN a6.c aw aC zH) ?_;rintro v I' M' -⟨rfl,rfl,rfl⟩;refine b5.mk (λad=>?_) (λad=>?_)
    ·refine a8.mk [] [] _ (.refl _) (aiK a6 aw aC zH) ?_;rintro v ew M' -⟨rfl,gq,rfl⟩;refine⟨_,_,.refl,?_,gq,rfl⟩;have n2:¬ 1024<u3 g:=by simp at ad;omega
     simp[n2];omega
    ·refine⟨_,_,.refl,?_,λ_ _ h=>h,rfl⟩;have n2:1024<u3 g:=by simp at ad;omega
     simp[n2]
def eO(name:ByteArray):List a3->Nat->Int
 |[],_=>-1| d::ds,i=>bif decide (d.name=name)then(i:Int)else eO name ds (i+1)
def aiP{g:cE}(aw:g.ok I)(name:ByteArray):Spec Tryz.prog 111 [g.val,.string name] I [] (λv I' M'=>v=.int .i64 (eO name g.ds 0)/\I'=I/\M'=[]):=by
 refine bU [] a0 Tryz.func111 rfl rfl rfl ?_;intro B ax;have ic:=aw.n;have hk:=aw.bb.cap;refine du.inv (ι:=Nat) (λi=>{ bp:=[(1,.val (.string name)),(8,.val (.slice g.a g.n g.c)),(9,.val (.int .i64 g.n)),(10,.val (.int .i64 i))],cO:=I }) (λi=>i<=g.n/\eO name g.ds 0=eO name (g.ds.drop i) i) (λi=>g.n-i) ?_ ?_
 ·exact⟨0,⟨am,rfl⟩,.refl,dM,.nil⟩
 ·rintro i⟨hi,aE⟩;refine aZ.mk (λh=>?_) (λh=>?_)
  ·have a1:i<g.n:=by simpa using h
   have cI:i<g.ds.length:=by omega
   obtain⟨aR,bI,bo⟩:=aw.bb.row a3.cL a1 cI;have lQ:g.ds.drop i=g.ds[i]::g.ds.drop (i+1):=e2 cI;refine bt.mk aR i bI rfl a1 ?_;refine aU.mk _ (bo _) ?_;refine aZ.mk (λad=>?_) (λad=>?_);·refine⟨_,_,.refl,?_,rfl,rfl⟩;rw[aE,lQ,eO,ad];rfl
   ·refine be.mk _ (c9 (i:=i) Z) ?_;refine⟨i+1,⟨⟨Z,?_⟩,Z⟩,.refl,dM,.nil⟩;rw[aE,lQ,eO,ad];rfl
  ·have cV:g.n<=i:=by simpa using h
   refine⟨_,_,.refl,?_,rfl,rfl⟩;rw[aE,mc Z];rfl
def drop_cons{L:List α}{k:Nat}{x:α}{bm:List α}(h:L.drop k=x::bm):∃ ae:k<L.length,L[k]=x/\L.drop (k+1)=bm:=by
 have ae:k<L.length:=by apply Nat.lt_of_not_le;intro bn;rw[mc bn]at h;cases h
 have ai:=e2 ae;rw[h]at ai;obtain⟨aa,ad⟩:=List.cons.inj ai;exact⟨ae,aa.symm,ad.symm⟩
def tE:Nat->List a3->List (List Value)
 |_,[]=>[]| i,d::ds=>d.t.ns.map (λn=>[.int .i64 i,n.val])++tE (i+1) ds
def aiQ(g:cE):Spec Tryz.prog 149 [g.val] I [] λr I' M'=>∃ b,r=.func (.func 223) #[] #[ptr b]/\I' b=some (.cells #[.slice g.a g.n g.c] 28 (0,0))/\(∀ b o,I b=some o->I' b=some o)/\M'=[]:=by refine bU [1] a0 Tryz.func149 rfl rfl rfl ?_;intro B ax;refine bQ.mk λg aw DH=>?_;exact⟨_,_,.kZ rfl am .refl,g,rfl,mg ..,j0 aw,rfl⟩
def aiR{g:cE}(aw:g.ok I){b:Nat}(ag:I b=some (.cells #[.slice g.a g.n g.c] 28 (0,0))) :
  Iter Tryz.prog 223 [ptr b] I (tE 0 g.ds):=by
 intro l R k7 rq dA M0 nB h9;refine Bf [] a0 Tryz.func223 rfl rfl rfl ?_;intro B ax;have ic:=aw.n;have hk:=aw.bb.cap;have bo:∀ (M:List aA),c6 dA M ((⟨b,0,none⟩:Addr).add 0) 1 [.slice g.a g.n g.c]:=λM=>⟨rfl,_,_,_,.inl (nB _ _ ag),rfl,rfl⟩;refine aU.mk _ (bo _) ?_;refine du.inv (ι:=Nat×Nat×aH×List aA) (λx=>{ bp:=[(0,.val (.func (.yield l) #[] #[])),(8,.val (.slice g.a g.n g.c)),(9,.val (.int .i64 g.n)),(10,.val (.int .i64 x.1))],cO:=x.2.2.1,c5:=x.2.2.2 }) (λx=>x.1<=g.n/\(∀ b o,I b=some o->x.2.2.1 b=some o)/\R x.2.1 x.2.2.1 x.2.2.2/\x.2.1<=(tE 0 g.ds).length/\(tE 0 g.ds).drop x.2.1=tE x.1 (g.ds.drop x.1)) (λx=>g.n-x.1) ?_ ?_
 ·exact⟨(0,0,dA,M0),⟨am,nB,h9,am,rfl⟩,.refl,dM,.nil⟩
 ·rintro⟨i,k,I1,M1⟩⟨hi,c8,hU,c4,iF⟩;simp only at hi c8 hU c4 iF;refine aZ.mk (λh=>?_) (λh=>?_)
  ·have a1:i<g.n:=by simpa using h
   have cI:i<g.ds.length:=by omega
   have tA:=aw.mono c8;obtain⟨aR,bI,Po⟩:=tA.bb.row a3.cL a1 cI;have g6:g.ds[i]∈g.ds:=bK cI;have g7:=(aw.ds _ g6).t.n;have awR:=(aw.ds _ g6).t.bb.cap;have lQ:g.ds.drop i=g.ds[i]::g.ds.drop (i+1):=e2 cI;refine bt.mk aR i bI rfl a1 ?_;refine aU.mk _ (Po _) ?_;refine du.inv (ι:=Nat×Nat×aH×List aA) (λx=>{ bp:=[(0,.val (.func (.yield l) #[] #[])),(3,.val (.int .i64 i)),(8,.val (.slice g.a g.n g.c)),(9,.val (.int .i64 g.n)),(10,.val (.int .i64 i)),(17,.val (.slice g.ds[i].t.a g.ds[i].t.n g.ds[i].t.c)),(18,.val (.int .i64 g.ds[i].t.n)),(19,.val (.int .i64 x.1))],cO:=x.2.2.1,c5:=x.2.2.2 }) (λx=>x.1<=g.ds[i].t.n/\(∀ b o,I b=some o->x.2.2.1 b=some o)/\R x.2.1 x.2.2.1 x.2.2.2/\x.2.1<=(tE 0 g.ds).length/\(tE 0 g.ds).drop x.2.1=(g.ds[i].t.ns.drop x.1).map (λn=>[.int .i64 i,n.val])++tE (i+1) (g.ds.drop (i+1))) (λx=>g.ds[i].t.n-x.1) ?_ ?_;·refine⟨(0,k,I1,M1),⟨am,c8,hU,c4,?_⟩,.refl,ku,.nil⟩;simp only;rw[iF,lQ];rfl
   ·rintro⟨j,k,I1,M1⟩⟨ah,c8,hU,c4,iF⟩;simp only at ah c8 hU c4 iF;refine aZ.mk (λh=>?_) (λh=>?_)
    ·have gi:j<g.ds[i].t.n:=by simpa using h
     have oF:j<g.ds[i].t.ns.length:=by omega
     have tA:=aw.mono c8;obtain⟨mW,mX,jn⟩:=(tA.ds _ g6).t.bb.row al.cL gi oF;have b':g.ds[i].t.ns.drop j=g.ds[i].t.ns[j]::g.ds[i].t.ns.drop (j+1):=e2 oF;rw[b',b0,pz]at iF;obtain⟨ae,ak,sH⟩:=drop_cons iF;refine bt.mk mW j mX rfl gi ?_;refine aU.mk _ (jn _) ?_;refine bC.yield rfl am rfl rfl ?_;have aG:=rq k ae I1 M1 c8 hU;rw[ak]at aG;refine Br.mk M1 [] _ am aG ?_;rintro v ew dv gq (⟨rfl,mQ⟩ | ⟨rfl,ab⟩);·refine aZ.mk (λh=>d7) (λ_=>?_);refine be.mk _ (c9 (i:=j) Z) ?_;exact⟨(j+1,k+1,ew,dv),⟨⟨ce,λb o h=>gq b o (c8 b o h),mQ,ae,sH⟩,ce⟩,.perm am .refl,ku,.nil⟩
     ·refine aZ.mk (λ_=>?_) (λh=>d7);exact⟨_,_,.perm am .refl,.inr ab⟩
    ·have cV:g.ds[i].t.n<=j:=by simpa using h
     rw[mc (show g.ds[i].t.ns.length<=j by omega),hs,hI]at iF;refine be.mk _ (c9 (i:=i) Z) ?_;exact⟨(i+1,k,I1,M1),⟨⟨ce,c8,hU,c4,iF⟩,ce⟩,.refl,dM,.nil⟩
  ·have cV:g.n<=i:=by simpa using h
   refine⟨_,_,.refl,.inl ?_⟩;rw[mc (show g.ds.length<=i by omega)]at iF;have uQ:k=(tE 0 g.ds).length:=by have:=GA.1 iF;omega
   rw[<-uQ];exact hU
section
variable{X:cN}{β:Nat->Nat}{a:Act}{w:World}{F:Fr}{C:de}{I:aH}{M:List aA}{o:Oper}{K:fz}
def cM.swap{n:Nat}{nu KI:Obj}{w':World}(h:cM X β a w F C I (⟨n,nu⟩::M))(av:w'.heap.size=w.heap.size)(aC:w'.heap[n]?=some KI)(ag:∀ b,b≠n->w'.heap[b]?=w.heap[b]?)(aD:ou w w'):cM X β a w' F C I (⟨n,KI⟩::M):=by
 have aa:=h.VJ av ag aD;have gd:(⟨n,nu⟩:aA)∈(⟨n,nu⟩:aA)::M:=by simp
 have b':=h.holds.cu;simp only[b0,lG]at b';have mem:∀ x,x∈(⟨n,KI⟩:aA)::M->x=⟨n,KI⟩\/x∈M:=λx ab=>er.1 ab;exact {
  size:=aa.size
  defers:=by
   obtain⟨bb,aK,ba,cA⟩:=aa.defers;obtain⟨aiS,f1,f2,f3⟩:=h.defers;refine⟨bb,aK,ba,λr af=>{ cA r af with e3:=λx ab=>?_ }⟩;rcases mem x ab with rfl | ab
   ·have ee:bb=aiS:=by
     have:=aK.symm.trans f1;have BU:∀ l eF:List Nat,l.map xu=eF.map xu->l=eF:=by
      intro l
      induction l with
      |nil=>intro eF h;cases eF with
       |nil=>rfl| cons=>simp at h
      |cons y l aQ=>intro eF h;cases eF with
       |nil=>simp at h
       |cons z eF=>
        simp only[b0,zA,xu,Deferred.mk.injEq]at h;have aG:y=z:=by simpa using h.1
        rw[aG,aQ eF h.2]
     exact BU _ _ this
    subst ee;exact(f3 r af).e3 ⟨n,nu⟩ gd
   ·exact(cA r af).e3 x ab
  holds:={
   i:=aa.holds.i
   m:=λx ab=>by
    rcases mem x ab with rfl | ab;·exact aC
    ·exact aa.holds.m x ab
   d:=λx ab=>by
    rcases mem x ab with rfl | ab;·exact h.holds.d ⟨n,nu⟩ gd
    ·exact aa.holds.d x ab
   cu:=by simpa using b' }
  an:=h.an
  cm:=λs cs lM=>by
   have sm:=h.cm s cs lM;refine { aa.cm s cs lM with e3:=λx ab=>?_ };rcases mem x ab with rfl | ab;·exact sm.e3 ⟨n,nu⟩ gd
   ·exact(aa.cm s cs lM).e3 x ab
  inj:=h.inj
  h5:=h.h5
  hE:=h.hE
  own:=λx ab=>by
   rcases mem x ab with rfl | ab;·exact h.own ⟨n,nu⟩ gd
   ·exact aa.own x ab
  dI:=aa.dI
  out:=aa.out
  sz:=aa.sz
  fA:=aa.fA }
def oK(l:List (ByteArray×Int)):Nat->List MapEntry
 |i=>match l with
  |[]=>[]| p::l=>{ key:=.string p.1,val:=.int .i64 p.2,born:=i }::oK l (i+1)
def jt(l:List (ByteArray×Int)):Obj:=.map (oK l 0).toArray l.length
def eP(s:ByteArray):List (ByteArray×Int)->Option Int
 |[]=>none| p::l=>bif decide (s=p.1)then some p.2 else eP s l
def aiT(l:List (ByteArray×Int))(p:ByteArray×Int):∀ i,oK (l++[p]) i=oK l i++[{ key:=.string p.1,val:=.int .i64 p.2,born:=i+l.length }]:=by
 induction l with
 |nil=>intro i;simp[oK]| cons q l aQ=>intro i;simp only[pz,oK,aQ,ep,zA,true_and,List.append_cancel_left_eq,MapEntry.mk.injEq,and_true];omega
def bytes_beq(a b:ByteArray):(a == b)=decide (a=b):=by
 rw[r8];simp only[h3];constructor
 ·intro h
  first | exact eq_of_beq h | exact xL (eq_of_beq (a:=a.data) (b:=b.data) h)
 ·rintro rfl
  first | exact Ky _ | exact Ky a.data
def KJ(s:ByteArray):∀ (l:List (ByteArray×Int)) (i j:Nat),∃ r,Instr.findNow .string (.string s) (oK l i) j=some r/\r.map (·.2)=(eP s l).map (Value.int .i64)
 |[],i,j=>⟨none,rfl,rfl⟩
 |p::l,i,j=>by
  obtain⟨r,aa,ad⟩:=KJ s l (i+1) (j+1);unfold oK Instr.findNow;simp only[Instr.sameNow,bytes_beq];cases ag:decide (s=p.1)with
  |true=>exact⟨_,rfl,by simp[eP,ag]⟩| false=>exact⟨r,aa,by simp only[eP,ag,cD];exact ad⟩
theorem bC.makeMap(aL:cU X.P X.E){t:Nat}{r:Operand}(aD:o.op=.makeMap t (some r))(ai:∀ d,o.dst=some d->d<X.n){k:Nat}(au:X.E t=some cS)(dt:cS.bL=.map k e)
  {q:IntKind} {n:Int} (af:bG F r=.val (.int q n)) (h:∀ b,K (put o.dst (.val (.map (some b))) F) C I (⟨b,jt []⟩::M)):bC X o F C I M K:=by
 refine⟨λa w Q ⟨β,aM⟩=>?_⟩;obtain⟨d,fJ,fj⟩:=(aL _ _ au).fp;have aa:d=.map k e:=by rw[dt]at fj;cases d<;>simp_all[fo]
 subst aa;have Pp:=df aM.an af;refine ix f7 (v:=.map (some w.heap.size)) (w':=w.alloc (.map #[] 0)) ?_ ⟨_,_,_,_,⟨β,cM.put (x:=.val (.map (some w.heap.size))) (aM.nX (jt [])) ai rfl⟩,h _⟩;unfold execOp;simp only[aD,kW,Pp];simp[Instr.makeMap,run_underlying fJ,asInt,q0]
theorem bC.lookup(aL:cU X.P X.E){t:Nat}(aD:o.op=.lookup t x y true)(ai:∀ d,o.dst=some d->d<X.n){k:Nat}(au:X.E t=some cS)(dt:cS.bL=.map k e)(ae:X.E k=some uV)(eH:uV.bL=.string)(bg:∀ w,(zeroValue e).run X.P w=.ok (.int .i64 0) w){s:ByteArray}(ab:bG F x=.val (.map (some g)))(aG:bG F y=.val (.string s))(bc:(⟨g,jt l⟩:aA)∈M)
  (h:K (put o.dst (.val (.tuple #[.int .i64 ((eP s l).getD 0),.bool (eP s l).isSome])) F) C I M):bC X o F C I M K:=by
 refine⟨λa w Q ⟨β,aM⟩=>?_⟩;obtain⟨d,fJ,fj⟩:=(aL _ _ au).fp;have aa:d=.map k e:=by rw[dt]at fj;cases d<;>simp_all[fo]
 subst aa;obtain⟨dF,sI,gm⟩:=(aL _ _ ae).fp;have ad:dF=.string:=by rw[eH]at gm;cases dF<;>simp_all[fo]
 subst ad;have aw:w.heap[g]?=some (.map (oK l 0).toArray l.length):=aM.holds.m _ bc;have ex:=df aM.an ab;have oD:=df aM.an aG;obtain⟨r,vZ,mj⟩:=KJ s l 0 0;have ao:(Instr.checkKey (oK l 0).toArray.isEmpty 10000 k (.string s)).run X.P w=.ok () w:=DQ (k:=.string s) sI ay9 _ 9999;have u4:(Instr.findKey k (.string s) (oK l 0)).run X.P w=.ok r w:=DR sI vZ;have e':(Instr.lookup t (.map (some g)) (.string s) true).run X.P w=.ok (.tuple #[.int .i64 ((eP s l).getD 0),.bool (eP s l).isSome]) w:=by
  unfold Instr.lookup;simp only[cp,run_underlying fJ,bY,DP aw,db,ao,u4];cases r with
  |none=>
   cases az:eP s l with
   |none=>simp[bg]| some v=>rw[az]at mj;simp at mj
  |some p=>
   cases az:eP s l with
   |none=>rw[az]at mj;simp at mj| some v=>rw[az]at mj;simp only[kW,kr]at mj;simp[mj]
 refine vY aM ai f7 ?_ h;unfold execOp;simp only[aD,ex,oD,cp,e',bY,db]
theorem bC.W2(aL:cU X.P X.E){t:Nat}{z:Operand}(aD:o.op=.mapUpdate t x y z)(ai:o.dst=none){k:Nat}(au:X.E t=some cS)(dt:cS.bL=.map k e)(ae:X.E k=some uV)(eH:uV.bL=.string)
 {s:ByteArray} {v:Int} (ab:bG F x=.val (.map (some g))) (aG:bG F y=.val (.string s)) (Bc:bG F z=.val (.int .i64 v)) (az:eP s l=none)
  {Mr:List aA} (bc:M.Perm (⟨g,jt l⟩::Mr)) (h:K F C I (⟨g,jt (l++[(s,v)])⟩::Mr)):bC X o F C I M K:=by
 refine⟨λa w Q ⟨β,h9⟩=>?_⟩;have aM:cM X β a w F C I (⟨g,jt l⟩::Mr):=h9.hT (.perm bc .refl);obtain⟨d,fJ,fj⟩:=(aL _ _ au).fp;have aa:d=.map k e:=by rw[dt]at fj;cases d<;>simp_all[fo]
 subst aa;obtain⟨dF,sI,gm⟩:=(aL _ _ ae).fp;have ad:dF=.string:=by rw[eH]at gm;cases dF<;>simp_all[fo]
 subst ad;have aw:w.heap[g]?=some (.map (oK l 0).toArray l.length):=aM.holds.m ⟨g,jt l⟩ am;have ex:=df aM.an ab;have oD:=df aM.an aG;have Pq:=df aM.an Bc;obtain⟨r,vZ,mj⟩:=KJ s l 0 0;have af:r=none:=by
  rw[az]at mj;cases r with
  |none=>rfl| some _=>simp at mj
 subst af;have ao:(Instr.checkKey false 10000 k (.string s)).run X.P w=.ok () w:=DQ (k:=.string s) sI ay9 _ 9999;have u4:(Instr.findKey k (.string s) (oK l 0)).run X.P w=.ok none w:=DR sI vZ;have e6:jt (l++[(s,v)])=.map ((oK l 0).toArray.push { key:=.string s,val:=.int .i64 v,born:=l.length }) (l.length+1):=by unfold jt;rw[aiT];simp
 have e':(Instr.mapUpdate t (.map (some g)) (.string s) (.int .i64 v)).run X.P w=.ok () { w with heap:=w.heap.setIfInBounds g (jt (l++[(s,v)])) }:=by unfold Instr.mapUpdate;simp only[cp,run_underlying fJ,bY,DP aw,ao,u4,O8 _ aw,e6]
 have g4:=MapKept.heap_set (o':=jt (l++[(s,v)])) aw;refine Dh f7 (w':={ w with heap:=w.heap.setIfInBounds g (jt (l++[(s,v)])) }) ?_ ⟨F,C,I,_,⟨β,?_⟩,h⟩
 ·unfold execOp;simp only[aD,ex,oD,Pq,cp,e',bY,db]
 ·rw[ai];exact aM.swap am g4.1 g4.2 ⟨rfl,rfl⟩
end
def qx:Nat->List a3->List (Nat×al)
 |_,[]=>[]| i,d::ds=>d.t.ns.map (λn=>(i,n))++qx (i+1) ds
def G7:∀ (ds:List a3) (i:Nat),tE i ds=(qx i ds).map λp=>[.int .i64 p.1,p.2.val]
 |[],i=>rfl| d::ds,i=>by simp only[tE,qx,cR,gj,G7 ds (i+1)];rfl
def n6(ds:List a3):Bool:=ds.all λd=>nv d.name&&normal d.t
def lR:List (ByteArray×Int)->Nat->List a3->Option (List (ByteArray×Int))
 |a5,_,[]=>some a5| a5,i,d::ds=>bif (eP d.name a5).isSome then none else lR (a5++[(d.name,(i:Int))]) (i+1) ds
def zI(a5:List (ByteArray×Int))(n:al):Bool:=!decide (n.k=3)||(eP n.t a5).isSome
def rA(a5:List (ByteArray×Int))(ds:List a3):Bool:=(qx 0 ds).all λp=>zI a5 p.2
def dO(ay:List Int)(g:cE):Int:=
 bif decide ((g.n:Int)=0)then 4 else bif !n6 g.ds then 4 else bif pJ ay g then 40 else
 match lR [] 0 g.ds with
 |none=>6| some a5=>bif rA a5 g.ds then 0 else 41
def u5(b:Nat)(e:Int):aA:=⟨b,.cells #[.int .i64 e] 47 (0,0)⟩
def BV{b:Nat}{e:Int}(h:u5 b e∈M):c6 I M ⟨b,0,none⟩ 1 [.int .i64 e]:=
 ⟨rfl,_,_,_,.inr ⟨_,h,rfl,rfl⟩,rfl,rfl⟩
def G8(w:World):(zeroValue 3).run Tryz.prog w=.ok (.int .i64 0) w:=by
 have h:(Tryz.prog.info? 3).map (λi=>i.zero)=some (some (.int .i64 0)):=by kernel_rfl
 obtain⟨i,aa,ad⟩:=ur.1 h;simp[zeroValue,typeInfo,aa,ad]
def W3(a6:en I ay){g:cE}(aw:g.ok I):Spec Tryz.prog 71 [g.val] I [] (λv I' M'=>v=.int .i64 (dO ay g)/\(∀ b o,I b=some o->I' b=some o)/\M'=[]):=by
 refine bU [2,5] a0 Tryz.func71 rfl rfl rfl ?_;intro B ax;have ic:=aw.n;have hk:=aw.bb.cap;refine bQ.mk λbH il Pr=>?_;refine aZ.mk (λaa=>?_) (λaa=>?_)
 ·refine b4.mk [] [] _ _ rfl rfl (bJ rfl) rfl ?_;refine aU.mk _ (BV (b:=bH) (e:=4) (.head _)) ?_;refine⟨_,_,.sub (fs _) .refl,?_,λ_ _ h=>h,rfl⟩;rw[dO,aa];rfl
 ·have lK:g.n≠0:=by simp at aa;omega
  refine du.inv (ι:=Nat) (λi=>{ bp:=[(1,.ref 1 0),(2,.val (ptr bH)),(19,.val (.slice g.a g.n g.c)),(20,.val (.int .i64 g.n)),(21,.val (.int .i64 i))],cl:=[(1,[.slice g.a g.n g.c])],cO:=I,c5:=[u5 bH 0] }) (λi=>i<=g.n/\n6 (g.ds.take i)=true) (λi=>g.n-i) ?_ ?_;·exact⟨0,⟨am,rfl⟩,.refl,hh,.cons rfl .nil⟩
  ·rintro i⟨hi,eG⟩;refine aZ.mk (λh=>?_) (λh=>?_)
   ·have a1:i<g.n:=by simpa using h
    have cI:i<g.ds.length:=by omega
    obtain⟨aR,bI,bo⟩:=aw.bb.row a3.cL a1 cI;have g6:g.ds[i]∈g.ds:=bK cI;have bad:(nv g.ds[i].name&&normal g.ds[i].t)=false->dO ay g=4:=λag=>by
     have:n6 g.ds=false:=by unfold n6;rw[Kx];exact⟨_,g6,by simp[ag]⟩
     rw[dO,aa,this];rfl
    refine bt.mk aR i bI rfl a1 ?_;refine aU.mk _ (bo _) ?_;refine a8.mk [] [u5 bH 0] _ (.refl _) (OQ _ g.ds[i].name) ?_;rintro v I' M' -⟨rfl,rfl,rfl⟩;refine b5.mk (λad=>?_) (λad=>?_)
    ·have hm:nv g.ds[i].name=true:=by simpa using ad
     refine a8.mk [] [u5 bH 0] _ (.refl _) (aiL a6.c (aw.ds _ g6).t) ?_;rintro v I' M' -⟨rfl,rfl,rfl⟩;refine aZ.mk (λaj=>?_) (λaj=>?_)
     ·have ed:normal g.ds[i].t=false:=by simpa using aj
      refine b4.mk [] [] _ _ rfl rfl (bJ rfl) rfl ?_;refine aU.mk _ (BV (b:=bH) (e:=4) (.head _)) ?_;refine⟨_,_,.sub (fs _) .refl,?_,λ_ _ h=>h,rfl⟩;rw[bad (by rw[hm,ed];rfl)];rfl
     ·have ed:normal g.ds[i].t=true:=by simpa using aj
      refine be.mk _ (c9 (i:=i) Z) ?_;refine⟨i+1,⟨⟨Z,?_⟩,Z⟩,.refl,hh,.cons rfl .nil⟩;unfold n6 at eG |-;rw[gk cI,GV,eG];simp[hm,ed]
    ·have hm:nv g.ds[i].name=false:=by simpa using ad
     refine b4.mk [] [] _ _ rfl rfl (bJ rfl) rfl ?_;refine aU.mk _ (BV (b:=bH) (e:=4) (.head _)) ?_;refine⟨_,_,.sub (fs _) .refl,?_,λ_ _ h=>h,rfl⟩;rw[bad (by rw[hm];rfl)];rfl
   ·have cV:g.n<=i:=by simpa using h
    rw[fD Z]at eG;refine a8.mk [] [u5 bH 0] _ (.refl _) (aiO a6 aw) ?_;rintro v I1 M' -⟨rfl,c8,rfl⟩;refine aZ.mk (λad=>?_) (λad=>?_);·refine b4.mk [] [] _ _ rfl rfl (bJ rfl) rfl ?_;refine aU.mk _ (BV (b:=bH) (e:=40) (.head _)) ?_;refine⟨_,_,.sub (fs _) .refl,?_,c8,rfl⟩;rw[dO,aa,eG,ad];rfl
    ·have DZ:dO ay g=match lR [] 0 g.ds with
       |none=>6| some a5=>bif rA a5 g.ds then 0 else 41:=by
      rw[dO,aa,eG,ad];rfl
     rw[DZ];have tA:=aw.mono c8;refine bC.makeMap a0 rfl am rfl rfl rfl λjH=>?_;refine bQ.mk λdR BW KK=>?_;refine b4.mk [] [⟨jH,jt []⟩,u5 bH 0] _ _ rfl rfl (bJ rfl) rfl ?_;refine du.inv (ι:=Nat×List (ByteArray×Int)) (λx=>{ bp:=[(1,.ref 1 0),(2,.val (ptr bH)),(5,.val (ptr dR)),(43,.val (.slice g.a g.n g.c)),(44,.val (.int .i64 g.n)),(45,.val (.int .i64 x.1))],cl:=[(1,[.slice g.a g.n g.c])],cO:=I1,c5:=[⟨dR,.cells #[.map (some jH)] 167 (0,0)⟩,⟨jH,jt x.2⟩,u5 bH 0] }) (λx=>x.1<=g.n/\lR [] 0 g.ds=lR x.2 x.1 (g.ds.drop x.1)) (λx=>g.n-x.1) ?_ ?_;·exact⟨(0,[]),⟨am,rfl⟩,.refl,y7,.cons rfl .nil⟩
     ·rintro⟨i,a5⟩⟨hi,n1⟩;simp only at hi n1;refine aZ.mk (λh=>?_) (λh=>?_)
      ·have a1:i<g.n:=by simpa using h
       have cI:i<g.ds.length:=by omega
       obtain⟨aR,bI,bo⟩:=tA.bb.row a3.cL a1 cI;have lQ:g.ds.drop i=g.ds[i]::g.ds.drop (i+1):=e2 cI;refine bt.mk aR i bI rfl a1 ?_;refine aU.mk _ (bo _) ?_;refine aU.mk [.map (some jH)] ⟨rfl,_,_,_,.inr ⟨_,.head _,rfl,rfl⟩,rfl,rfl⟩ ?_;refine bC.lookup a0 rfl am rfl rfl rfl rfl (λw=>G8 w) (l:=a5) (g:=jH) rfl rfl am ?_;refine aZ.mk (λaj=>?_) (λaj=>?_);·refine b4.mk [⟨dR,.cells #[.map (some jH)] 167 (0,0)⟩,⟨jH,jt a5⟩] [] _ _ rfl rfl (bJ rfl) rfl ?_;refine aU.mk _ (BV (b:=bH) (e:=6) (.tail _ (.tail _ (.head _)))) ?_;refine⟨_,_,.sub (fs _) .refl,?_,c8,rfl⟩;rw[n1,lQ,lR,aj];rfl
       ·have az:eP g.ds[i].name a5=none:=by simpa using aj
        refine aU.mk [.map (some jH)] ⟨rfl,_,_,_,.inr ⟨_,.head _,rfl,rfl⟩,rfl,rfl⟩ ?_;refine bC.W2 a0 rfl rfl rfl rfl rfl rfl rfl rfl rfl az (Mr:=[⟨dR,.cells #[.map (some jH)] 167 (0,0)⟩,u5 bH 0]) (List.Perm.swap _ _ _) ?_;refine be.mk _ (c9 (i:=i) Z) ?_;refine⟨(i+1,a5++[(g.ds[i].name,(i:Int))]),⟨⟨ce,?_⟩,ce⟩,.perm (List.Perm.swap _ _ _) .refl,y7,.cons rfl .nil⟩;simp only;rw[n1,lQ,lR,aj];rfl
      ·have awS:g.n<=i:=by simpa using h
       have fj:lR [] 0 g.ds=some a5:=by rw[n1,mc Z,lR]
       rw[fj];refine a8.mk [] [⟨dR,.cells #[.map (some jH)] 167 (0,0)⟩,⟨jH,jt a5⟩,u5 bH 0] _ (.refl _) (aiQ g) ?_;rintro v ew dv -⟨c0,rfl,x2,gq,rfl⟩;have mS:=tA.mono gq;have W4:∀ b o,I b=some o->ew b=some o:=λb o h=>gq _ _ (c8 _ _ h);refine cY.range a0 rfl rfl rfl .refl (aiR mS x2) (λvs h=>?_) (λk I' M'=>(∀ b o,ew b=some o->I' b=some o)/\((qx 0 g.ds).take k).all (λp=>zI a5 p.2)=true/\M'=[⟨dR,.cells #[.map (some jH)] 167 (0,0)⟩,⟨jH,jt a5⟩,u5 bH 0]) (λex I' M'=>ex=.ret/\(∀ b o,ew b=some o->I' b=some o)/\rA a5 g.ds=false/\M'=[⟨dR,.cells #[.map (some jH)] 167 (0,0)⟩,⟨jH,jt a5⟩,u5 bH 41]) ⟨λ_ _ h=>h,rfl,rfl⟩ ?_ ?_ ?_;·rw[G7]at h;obtain⟨p,_,rfl⟩:=c3.1 h;rfl
       ·rintro k ae I' M' -⟨kF,bf,rfl⟩l B ax iC;have x3:k<(qx 0 g.ds).length:=by simpa[G7]using ae
        generalize aI:(qx 0 g.ds)[k]=p;have ak:(tE 0 g.ds)[k]=[.int .i64 p.1,p.2.val]:=by simp only[G7,gh,aI]
        rw[ak];have next:zI a5 p.2=true->((qx 0 g.ds).take (k+1)).all (λp=>zI a5 p.2)=true:=λh=>by rw[gk x3,GV,bf,aI];simp[h]
        refine aZ.mk (λaj=>?_) (λaj=>?_)
        ·refine⟨_,_,.refl,kF,next ?_,rfl⟩;have x4:decide (p.2.k=3)=false:=by simpa using aj
         simp[zI,x4]
        ·have x4:decide (p.2.k=3)=true:=by simpa using aj
         refine aU.mk [.map (some jH)] ⟨rfl,_,_,_,.inr ⟨_,.head _,rfl,rfl⟩,rfl,rfl⟩ ?_;refine bC.lookup a0 rfl am rfl rfl rfl rfl (λw=>G8 w) (l:=a5) (g:=jH) rfl rfl am ?_;refine aZ.mk (λaJ=>?_) (λaJ=>?_)
         ·refine b4.mk [⟨dR,.cells #[.map (some jH)] 167 (0,0)⟩,⟨jH,jt a5⟩] [] _ _ rfl rfl (bJ rfl) rfl ?_;refine⟨_,_,.refl,rfl,kF,?_,rfl⟩;unfold rA;rw[Kx];have BX:(eP p.2.t a5).isSome=false:=by simpa using aJ
          exact⟨p,by rw[<-aI];exact bK x3,by simp[zI,x4,BX]⟩
         ·have BX:(eP p.2.t a5).isSome=true:=by simpa using aJ
          exact⟨_,_,.refl,kF,next (by simp[zI,BX]),rfl⟩
       ·rintro I' M' -⟨kF,bf,rfl⟩;have Ps:rA a5 g.ds=true:=by unfold rA;rw[fD (by simp[G7])]at bf;exact bf
        refine b4.mk [⟨dR,.cells #[.map (some jH)] 167 (0,0)⟩,⟨jH,jt a5⟩] [] _ _ rfl rfl (bJ rfl) rfl ?_;refine aU.mk _ (BV (b:=bH) (e:=0) (.tail _ (.tail _ (.head _)))) ?_;refine⟨_,_,.sub (fs _) .refl,?_,λb o h=>kF _ _ (W4 _ _ h),rfl⟩;simp only[Ps];rfl
       ·rintro ex I' M' -⟨rfl,kF,Ps,rfl⟩;refine⟨am,?_⟩;refine aU.mk _ (BV (b:=bH) (e:=41) (.tail _ (.tail _ (.head _)))) ?_;refine⟨_,_,.sub (fs _) .refl,?_,λb o h=>kF _ _ (W4 _ _ h),rfl⟩;simp only[Ps];rfl
structure zJ where
 a:Option Addr
 n:Nat
 c:Nat
 l:List Int
def zJ.val(r:zJ):Value:=.slice r.a r.n r.c
structure zJ.ok(I:aH)(r:zJ):Prop where
 bb:cx I r.a r.n r.c 1 8 (r.l.map (.int .i64 ·))
def zJ.ok.n{r:zJ}(h:r.ok I):r.l.length=r.n:=by have:=h.bb.len;simpa using this
structure wC where
 rows:List zJ
 a:Option Addr
 n:Nat
 c:Nat
def wC.val(x:wC):Value:=.slice x.a x.n x.c
structure wC.ok(I:aH)(x:wC):Prop where
 bb:cx I x.a x.n x.c 1 24 (x.rows.map zJ.val)
 rows:∀ r∈x.rows,r.ok I
def wC.ok.n{x:wC}(h:x.ok I):x.rows.length=x.n:=by have:=h.bb.len;simpa using this
def aT.KL{b:Nat}(h:os.ok size xs)(ag:os.n*b<=140737488355328)(bE:∀ g,os.a=some g->I g=none)(Mr:List aA) :
  ∃ I',hS [] I (os.ar e++Mr) I' Mr/\(∀ b o,I b=some o->I' b=some o)/\cx I' (os.a.map λg=>⟨g,0,none⟩) os.n os.c size b xs:=by
 obtain⟨a,n,c,aS⟩:=os;cases a with
 |none=>obtain⟨aa,ad⟩:=h.nil rfl;simp only at aa ad;subst aa;subst ad;exact⟨I,.refl,λ_ _ h=>h,h.len,⟨cc _,am⟩,.inl rfl⟩
 |some g=>obtain⟨aa,ad,aj,aJ⟩:=h.cap g rfl;have aw:=bE g rfl;exact⟨ins I g (.cells aS.toArray e (0,0)),.kZ rfl am .refl,j0 aw,h.len,⟨ad,ag⟩,.inr ⟨⟨g,0,none⟩,rfl,rfl,_,_,_,mg ..,v6⟩⟩
def hL:aT:=⟨none,0,0,[]⟩
def kL(size:Nat):hL.ok size []:=⟨by simp[hL],λ_=>⟨rfl,rfl⟩,λg h=>ci⟩
def aT.ok.pK{l:List Int}(h:os.ok 1 (l.map (Value.int .i64))):os.n=l.length:=by have:=h.len;simp at this;omega
structure zK where
 a:Option Addr
 n:Nat
 c:Nat
 l:List Bool
def zK.val(r:zK):Value:=.slice r.a r.n r.c
structure zK.ok(I:aH)(r:zK):Prop where
 bb:cx I r.a r.n r.c 1 1 (r.l.map Value.bool)
def zK.ok.n{r:zK}(h:r.ok I):r.l.length=r.n:=by have:=h.bb.len;simpa using this
def valid(n:Nat)(l:List Int):Prop:=∀ k∈l,0<=k/\k<n
inductive Comes(L:List (List Int))(i:Nat):Nat->Prop
 |self:Comes L i i| next {a k:Nat} (h:Comes L i a) (ae:(k:Int)∈L.getD a []):Comes L i k
def W5(R:List (List Bool))(i k:Nat):Bool:=(R.getD i []).getD k false
def Pt(R:List (List Bool))(i k:Nat):Prop:=W5 R i k=true/\W5 R k i=true
def Pt.symm{R:List (List Bool)}{j:Nat}(h:Pt R i j):Pt R j i:=⟨h.2,h.1⟩
def Comes.trans{L:List (List Int)}{j k:Nat}(aa:Comes L i j)(ad:Comes L j k):Comes L i k:=by
 induction ad with
 |self=>exact aa| next _ ae aQ=>exact .next aQ ae
structure KM where
 rows:List zK
 a:Option Addr
 n:Nat
 c:Nat
def KM.val(x:KM):Value:=.slice x.a x.n x.c
structure KM.ok(I:aH)(x:KM):Prop where
 bb:cx I x.a x.n x.c 1 24 (x.rows.map zK.val)
 rows:∀ r∈x.rows,r.ok I
def G9(W:World):aH:=λb=>W.heap[b]?
def aiU(W:World):eJ (G9 W) [] W:=⟨λb o h=>h,(λx ab=>wl),(λx ab=>wl),A2⟩
structure BY(W kH:World):Prop where
 dI:∀ b,b<W.heap.size->kH.heap[b]?=W.heap[b]?
 sz:W.heap.size<=kH.heap.size
 out:ou W kH
def aiV{f:Nat}{args:List Value}{post:Value->aH->List aA->Prop}(h:vV P f args (G9 W) [] post) :
  Calls P f args.toArray W λe kH=>∃ v,e=.returned v/\(∃ I' M',post v I' M')/\BY W kH:=by
 refine(h.2 W (aiU W)).mono ?_;rintro e kH⟨v,I',M',rfl,aI,_,dj⟩;exact⟨v,rfl,⟨I',M',aI⟩,λb ag=>dj.dI b ag (λy aG=>by cases aG),dj.sz,dj.out⟩
def BY.kept(h:BY W kH)(may:MemPlace->Prop):W.keptBut kH may:=by
 refine⟨h.out.1,h.out.2,λi hi=>?_⟩;rw[h.dI i hi];cases W.heap[i]? with
 |none=>rfl| some o=>cases o<;>simp
def BY.frozen(h:BY W kH){a:Addr}(a7:a.block<W.heap.size):kH.frozen? a=W.frozen? a:=by unfold World.frozen?;rw[h.dI _ a7]
variable{H:Type}{enc:TypeId×Value->H}{P:Program}
def aiW{f:Func}{s:ChangeSpec}{apart fresh handsOn again:Bool}{args:Array Value}{ds gs:List (DataW H)}{before pa pv:List MemPlace}(k1:DataW.Whole enc P f.params.toList s.vars apart W args.toList ds gs before)(G':∀ (b:Nat) (iW:Nat->Bool) (ai:Bool),DataW.TrodAll enc P kH b iW ai f.resultTypes.toList (v.resultList f.resultTypes.size) (s.fn H (ds++gs)).results [])(ml:∀ iW:Nat->Bool,(∀ p∈before,iW p.block=true)->DataW.TrodAll enc P kH 0 iW true f.params.toList args.toList (s.fn H (ds++gs)).args pa)(W6:∀ iW:Nat->Bool,(∀ p∈before,iW p.block=true)->DataW.TrodVars enc P kH iW s.vars (s.fn H (ds++gs)).vars pv)(D1:before=pa++pv)(ae:BY W kH)(bf:∀ (j:Nat) (t:TypeId) (r:Value),f.resultTypes[j]?=some t->(v.resultList f.resultTypes.size)[j]?=some r->Value.okWide P kH .any 0 t r) :
  s.post enc P f apart fresh handsOn again W args v kH:=by
 have hold:∀ p∈before,(λb=>decide (b<W.heap.size)) p.block=true:=λp aI=>by simpa using k1.lt p aI
 have a1:∀ p∈before,p.block<W.heap.size:=λp aI=>k1.lt p aI;refine⟨ds,gs,before,[],pa,pv,k1,G' _ _ _,ml _ hold,W6 _ hold,World.keptBut_mono (λp aI=>⟨aI,?_⟩) (ae.kept (·∈before)),λ_=>?_⟩
 ·rw[D1,c1]at aI;exact Or.inr aI
 ·obtain⟨_,_,_,_,_,bg,aC⟩:=k1;refine⟨bf,_,_,([]++pa)++pv,⟨[]++pa,pv,ChangeShapes.trodAll_append (ml _ (λ_ _=>rfl)) (G' _ _ _),W6 _ (λ_ _=>rfl),rfl,?_,?_⟩,?_⟩
  ·intro b off aI;have x5:MemPlace.cell b off∈before:=by rw[D1];simpa using aI
   rw[ae.frozen (a:=⟨b,off,none⟩) (a1 _ x5)];exact bg b off x5
  ·intro a7;have:=aC a7;rw[D1]at this;simpa using this
  ·intro p aI _;rw[D1];simpa using aI
def x6:DataW H->Option Value
 | .lit (.int k z)=>some (.int k z)| .lit (.string l)=>some (.string ⟨l.toArray⟩)| .lit (.bool b)=>some (.bool b)| _=>none
def Ha(P:Program)(e:TypeId):Bool:=match P.underlying e with
 |some .bool | some (.int _) | some .string=>true| _=>false
section
variable{w:World}{dJ:Nat}{iW:Nat->Bool}{held:Bool}{jo:Nat}{t e:TypeId}{cs:List Value}{d:DataW H}{p:List MemPlace}
def W7(he:Ha P e=true)(h:DataW.trod enc P w dJ iW held jo e cs=some (d,p))(ak:x6 d=some v):cs=[v]:=by
 unfold Ha at he;split at he
 ·rename_i hu;obtain⟨b,rfl,ab⟩:=DataW.trod_bool hu h;cases ab;simpa[x6]using ak
 ·rename_i k hu;obtain⟨n,rfl,ab,_⟩:=DataW.trod_int hu h;cases ab;simpa[x6]using ak
 ·rename_i hu;obtain⟨s,rfl,ab,_⟩:=DataW.trod_string hu h;cases ab;simpa[x6]using ak
 ·cases he
def KN{α β:Type}{f:α->Option β}:∀ {l:List α} {r:List β},l.mapM f=some r->r.length=l.length/\∀ i (h:i<l.length) (bd:i<r.length),f l[i]=some r[i]
 |[],r,h=>by simp at h;subst h;exact⟨rfl,λi h=>d7⟩
 |x::l,r,h=>by
  simp only[F5,Option.bind_eq_bind,Option.bind_eq_some_iff,Option.pure_def,kr]at h;obtain⟨b,ag,v8,fB,rfl⟩:=h;obtain⟨aa,ad⟩:=KN fB;refine⟨WP,λi hi cz=>?_⟩;cases i with
  |zero=>simpa using ag| succ i=>simpa using ad i i6 (by simpa using cz)
def W8{cs vs:List Value}(az:cs.length=vs.length)(h:∀ i (hi:i<vs.length),(cs.drop i).take 1=[vs[i]]):cs=vs:=by apply oA az;intro i aa ad;have:=h i ad;rw[e2 aa,rf,qi]at this;simpa using this
def W9{n:Nat}(au:P.underlying t=some (.array n e))(he:Ha P e=true)(Hb:P.cellsOf e=1)(ej:P.cellsOf t=n){ds:List (DataW H)}(h:DataW.trod enc P w dJ iW held jo t cs=some (.agg ds,p))(ak:ds.mapM x6=some vs):cs=vs:=by
 obtain⟨xs,m,rfl,ab,az,kG,hi⟩:=DataW.trod_array au h;have fE:ds=xs.map (·.1):=by have:=congrArg Prod.fst ab;simpa using this
 obtain⟨a',bh⟩:=KN ak;have pL:vs.length=n:=by rw[a',fE];simpa using kG
 refine W8 (by rw[az,ej,pL]) λi cz=>?_;have aa:=hi i Z;rw[Hb,gM]at aa;have u6:i<xs.length:=by omega
 rw[dy u6]at aa;have ad:=bh i t9 cz;have aj:ds[i]' t9=xs[i].1:=by simp[fE]
 rw[aj]at ad;exact W7 he (d:=xs[i].1) (p:=xs[i].2) aa ad
def aiX{et:Array Field}(au:P.underlying t=some (.struct et))(aE:∀ (i:Nat) (f:Field),et[i]?=some f->Ha P f.type=true/\f.offset=i/\P.cellsOf f.type=1)(ej:P.cellsOf t=et.size){ds:List (DataW H)}(h:DataW.trod enc P w dJ iW held jo t cs=some (.agg ds,p))(ak:ds.mapM x6=some vs):cs=vs:=by
 obtain⟨xs,m,rfl,ab,az,kG,hi⟩:=DataW.trod_struct au h;have fE:ds=xs.map (·.1):=by have:=congrArg Prod.fst ab;simpa using this
 obtain⟨a',bh⟩:=KN ak;have pL:vs.length=et.size:=by rw[a',fE];simpa using kG
 refine W8 (by rw[az,ej,pL]) λi cz=>?_;have W':i<et.size:=by omega
 obtain⟨eQ,cZ,hq⟩:=aE i et[i] (NM W');have aa:=hi i et[i] (NM W');rw[cZ,hq]at aa;have u6:i<xs.length:=by omega
 rw[dy u6]at aa;have ad:=bh i t9 cz;have aj:ds[i]' t9=xs[i].1:=by simp[fE]
 rw[aj]at ad;exact W7 eQ (d:=xs[i].1) (p:=xs[i].2) aa ad
def Xa{sz:Nat}:∀ (rows:List (List Value)) (cs:List Value),cs.length=rows.length*sz->(∀ i (hi:i<rows.length),(cs.drop (i*sz)).take sz=rows[i])->cs=rows.flatten
 |[],cs,az,_=>im pp
 |r::rows,cs,az,h=>by
  have ax:=h 0 am;simp only[zj,tl,ti]at ax;rw[ep,kx,nt]at az;have aQ:=Xa (sz:=sz) rows (cs.drop sz) (by rw[py];omega) λi hi=>by have:=h (i+1) i6;rw[Dz,show sz+i*sz=(i+1)*sz from by rw[kx];omega];simpa using this
  rw[O',<-aQ,<-ax,px]
def aiY{n:Nat}(au:P.underlying t=some (.array n e))(Hb:P.cellsOf e=sz)(ej:P.cellsOf t=n*sz){ds:List (DataW H)}(h:DataW.trod enc P w dJ iW held jo t cs=some (.agg ds,p))(af:rows.length=ds.length)
  (fv:∀ i (hi:i<ds.length) (cz:i<rows.length) jo cs p,DataW.trod enc P w dJ iW held jo e cs=some (ds[i],p)->cs=rows[i]):cs=rows.flatten:=by
 obtain⟨xs,m,rfl,ab,az,kG,hi⟩:=DataW.trod_array au h;have fE:ds=xs.map (·.1):=by have:=congrArg Prod.fst ab;simpa using this
 have eD:rows.length=n:=by rw[af,fE];simpa using kG
 refine Xa (sz:=sz) rows cs (by rw[az,ej,eD]) λi cz=>?_;have aa:=hi i Z;rw[Hb]at aa;have u6:i<xs.length:=by omega
 rw[dy u6]at aa;have aj:ds[i]' t9=xs[i].1:=by simp[fE]
 exact fv i t9 cz m _ xs[i].2 (by rw[aj];exact aa)
def Xb(d:DataW H):Option (List Value):=match d with
 | .agg l=>l.mapM x6| _=>none
def Pu{n:Nat}(au:P.underlying t=some (.array n e))(Hb:P.cellsOf e=sz)(ej:P.cellsOf t=n*sz){ds:List (DataW H)}(h:DataW.trod enc P w dJ iW held jo t cs=some (.agg ds,p))(af:ds.mapM Xb=some rows)
  (fv:∀ jo cs p l row,DataW.trod enc P w dJ iW held jo e cs=some (.agg l,p)->l.mapM x6=some row->cs=row):cs=rows.flatten:=by
 obtain⟨a',bh⟩:=KN af;refine aiY au Hb ej h a' λi hi cz jo cs p bd=>?_;have ad:=bh i hi cz;unfold Xb at ad;split at ad
 ·rename_i l az;rw[az]at bd;exact fv _ _ _ _ _ bd ad
 ·cases ad
end
end Go.V
namespace Go.V
open Go Go.Proofs
variable{P:Program}{t:bs}{x y:Operand}{a:Option Addr}{other:Prop}{I I':aH}{i g c e size sz:Nat}{ay:List Int}{w z f:Bool}{F:Fr}{C:de}{M:List aA}{vs xs:List Value}{α:Type}{X:cN}{cS uV:dH}{l:List (ByteArray×Int)}{v:Value}{os:aT}{W kH:World}{rows:List (List Value)}
def KO{n:String}{cs:Array Value}(aw:P.globalNamed n=some g)(h:W.var? P n=some cs):∃ T an,W.heap[g]?=some (.cells cs T an):=by
 simp only[World.var?,aw,Option.bind_some]at h;split at h
 ·rename_i c T an dg;cases h;exact⟨T,an,dg⟩
 ·cases h
def fw:List Int:=[0,1,56,2,57,49,28,3,61,58,42,50,38,29,17,4,62,47,59,36,45,43,51,22,53,39,33,30,24,18,12,5,63,55,48,27,60,41,37,16,46,35,44,21,52,32,23,11,54,26,40,15,34,20,31,10,25,14,19,9,13,8,7,6]
def aiZ{bm:List (String×DataW Unit)}(h:laidMet Tryz.prog ([("math/bits.deBruijn32tab",YtjaibbcbjfapaaaGreatDoor.Rows.laid_math_bits_deBruijn32tab),("math/bits.deBruijn64tab",YtjaibbcbjfapaaaGreatDoor.Rows.laid_math_bits_deBruijn64tab),("internal/strconv.uint64pow10",YtjaibbcbjfapaaaGreatDoor.Rows.laid_internal_strconv_uint64pow10),("bonsai/tree.counts",YtjaibbcbjfapaaaGreatDoor.Rows.laid_bonsai_tree_counts),("bonsai/print.counts",YtjaibbcbjfapaaaGreatDoor.Rows.laid_bonsai_print_counts),("bonsai/print.signs",YtjaibbcbjfapaaaGreatDoor.Rows.laid_bonsai_print_signs)]++bm) W):en (G9 W) fw:=by
 obtain⟨ps,bZ,_⟩:=h;obtain⟨a',t1,awT,f1,DK,eg,tA,tD,N5,iF,bZ,_⟩:=bZ;obtain⟨bh,t2,Pv,f2,DL,eV,mS,nH,ma,sH,bZ,_⟩:=bZ;obtain⟨bW,t3,awU,f3,awV,e0,sA,x7,Hc,KP,bZ,_⟩:=bZ;obtain⟨fu,t4,ai0,f4,p4,iZ,DY,Pw,ai1,Hd,bZ,_⟩:=bZ;obtain⟨k9,t5,ai2,f5,p5,D2,Xc,ai3,ai4,ai5,bZ,_⟩:=bZ;obtain⟨KQ,t6,ai6,f6,awW,Px,Xd,ai7,ai8,ai9,bZ,_⟩:=bZ;obtain rfl:=e1 ((show Tryz.prog.globalNamed "math/bits.deBruijn64tab" = some 4 by kernel_rfl).symm.trans mS)
 obtain rfl:=e1 ((show(Tryz.prog.globals[4]?).map (·.type)=some 428 by kernel_rfl).symm.trans nH);obtain rfl:=e1 ((show Tryz.prog.globalNamed "bonsai/tree.counts" = some 0 by kernel_rfl).symm.trans DY)
 obtain rfl:=e1 ((show(Tryz.prog.globals[0]?).map (·.type)=some 261 by kernel_rfl).symm.trans Pw);obtain rfl:=e1 ((show Tryz.prog.globalNamed "bonsai/print.counts" = some 2 by kernel_rfl).symm.trans Xc)
 obtain rfl:=e1 ((show(Tryz.prog.globals[2]?).map (·.type)=some 409 by kernel_rfl).symm.trans ai3);obtain rfl:=e1 ((show Tryz.prog.globalNamed "bonsai/print.signs" = some 1 by kernel_rfl).symm.trans Xd)
 obtain rfl:=e1 ((show(Tryz.prog.globals[1]?).map (·.type)=some 384 by kernel_rfl).symm.trans ai7);obtain⟨BN,rB,bH⟩:=KO mS ma;obtain⟨Pn,He,dS⟩:=KO DY ai1;obtain⟨aja,ajb,dR⟩:=KO Xc ai4;obtain⟨ajc,ajd,b6⟩:=KO Xd ai8;have fr:Pv.toList=fw.map (Value.int .u8):=W9 (show Tryz.prog.underlying 428=some (.array 64 5) by kernel_rfl) d0 d0 d0 sH d0;have D3:ai0.toList=jq.map (Value.int .i64):=Pu (n:=10) (sz:=2) (show Tryz.prog.underlying 261=some (.array 10 260) by kernel_rfl) d0 d0 Hd (rows:=[[.int .i64 0,.int .i64 0],[.int .i64 0,.int .i64 0],[.int .i64 0,.int .i64 0],[.int .i64 0,.int .i64 0],[.int .i64 2,.int .i64 (-1)],[.int .i64 2,.int .i64 (-1)],[.int .i64 1,.int .i64 1],[.int .i64 1,.int .i64 1],[.int .i64 1,.int .i64 1],[.int .i64 1,.int .i64 1]]) d0 (λ_ _ _ _ _ aa ad=>W9 (show Tryz.prog.underlying 260=some (.array 2 3) by kernel_rfl) d0 d0 d0 aa ad);have fields:∀ {t:TypeId},(match Tryz.prog.underlying t with
   |some (.struct et)=>decide (Tryz.prog.cellsOf t=et.size)&&(List.range et.size).all λi=>match et[i]? with
    |some f=>Ha Tryz.prog f.type&&(decide (f.offset=i)&&decide (Tryz.prog.cellsOf f.type=1))| none=>false
   |_=>false)=true->∀ (jo:Nat) (cs:List Value) (p:List MemPlace) (l:List (DataW Unit)) (row:List Value),DataW.trod (λ_=>()) Tryz.prog W 0 (λ_=>true) false jo t cs=some (.agg l,p)->l.mapM x6=some row->cs=row:=by
  intro t ao jo cs p l row aa ad;split at ao;·rename_i et hu;simp only[cC,h3,fN,j9]at ao;refine aiX hu (λi f aE=>?_) ao.1 aa ad;have hi:=ao.2 i (l4.1 aE).1;rw[aE]at hi;simpa using hi
  ·cases ao
 have D4:ai2.toList=GX:=Pu (n:=3) (sz:=3) (show Tryz.prog.underlying 409=some (.array 3 408) by kernel_rfl) d0 d0 ai5 (rows:=[[.int .i64 0,.int .i64 1,.string ⟨#[63]⟩],[.int .i64 0,.int .i64 (-1),.string ⟨#[42]⟩],[.int .i64 1,.int .i64 (-1),.string ⟨#[43]⟩]]) d0 (fields d0);have aje:ai6.toList=uW.map λl=>Value.string (strOf l):=Pu (n:=10) (sz:=3) (show Tryz.prog.underlying 384=some (.array 10 383) by kernel_rfl) d0 d0 ai9 (rows:=[[.string ⟨#[]⟩,.string ⟨#[]⟩,.string ⟨#[]⟩],[.string ⟨#[]⟩,.string ⟨#[]⟩,.string ⟨#[]⟩],[.string ⟨#[]⟩,.string ⟨#[]⟩,.string ⟨#[]⟩],[.string ⟨#[]⟩,.string ⟨#[]⟩,.string ⟨#[]⟩],[.string ⟨#[]⟩,.string ⟨#[32]⟩,.string ⟨#[]⟩],[.string ⟨#[]⟩,.string ⟨#[32,47,32]⟩,.string ⟨#[]⟩],[.string ⟨#[]⟩,.string ⟨#[]⟩,.string ⟨#[]⟩],[.string ⟨#[38]⟩,.string ⟨#[]⟩,.string ⟨#[]⟩],[.string ⟨#[33]⟩,.string ⟨#[]⟩,.string ⟨#[]⟩],[.string ⟨#[60]⟩,.string ⟨#[]⟩,.string ⟨#[62]⟩]]) d0 (fields d0);have arr:∀ {cs:Array Value} {l:List Value},cs.toList=l->cs=l.toArray:=λh=>by apply lH;simpa using h
 refine⟨⟨Pn,He,?_⟩,⟨aja,ajb,?_⟩,⟨ajc,ajd,?_⟩,bv,bv,BN,rB,?_⟩
 ·rw[<-arr D3];exact dS
 ·rw[<-arr D4];exact dR
 ·rw[<-arr aje];exact b6
 ·rw[<-arr fr];exact bH
def D5(cs:Array Value):Obj->Obj
 | .cells _ t an=>.cells cs t an| o=>o
def ajf:List Int:=(List.range 20).map λi=>(10:Int)^i
def ajg:List Int:=[0,1,28,2,29,14,24,3,30,22,20,15,25,17,4,8,31,27,13,23,21,19,16,7,26,12,18,6,11,5,10,9]
noncomputable def Py(os:Os):World:=
 { World.holding Tryz.prog os ⟨#[],#[],[]⟩with heap:=((((((World.holding Tryz.prog os ⟨#[],#[],[]⟩).heap.modify 0 (D5 (jq.map (Value.int .i64)).toArray)).modify 2 (D5 GX.toArray)).modify 1 (D5 (uW.map λl=>Value.string (strOf l)).toArray)).modify 4 (D5 (fw.map (Value.int .u8)).toArray)).modify 5 (D5 (ajf.map (Value.int .u64)).toArray)).modify 6 (D5 (ajg.map (Value.int .u8)).toArray) }
def own:ownKnob Tryz.prog.godebug=none:=by kernel_rfl
def laidOut:laidOutB Tryz.prog=true:=by kernel_rfl
def Xe{l:List α}{q:α->Bool}(h:l.all q=true){x:α}(ab:x∈l):q x=true:=fN.1 h x ab
def ajh{L:List (String×DataW Unit)}(bZ:laidMetH Tryz.prog L W)(he:L=[("math/bits.deBruijn32tab",YtjaibbcbjfapaaaGreatDoor.Rows.laid_math_bits_deBruijn32tab),("math/bits.deBruijn64tab",YtjaibbcbjfapaaaGreatDoor.Rows.laid_math_bits_deBruijn64tab),("internal/strconv.uint64pow10",YtjaibbcbjfapaaaGreatDoor.Rows.laid_internal_strconv_uint64pow10),("bonsai/tree.counts",YtjaibbcbjfapaaaGreatDoor.Rows.laid_bonsai_tree_counts),("bonsai/print.counts",YtjaibbcbjfapaaaGreatDoor.Rows.laid_bonsai_print_counts),("bonsai/print.signs",YtjaibbcbjfapaaaGreatDoor.Rows.laid_bonsai_print_signs)]):en (G9 W) fw:=by
 subst he;exact aiZ (bm:=[]) bZ
structure Pz(I:aH)(d:al):Prop where
 k:0<=d.k/\d.k<256
 cf:ga d.cf
 s1:ga d.s1
 s2:ga d.s2
 cH:ga d.cH
 lo:eC d.lo
 hi:eC d.hi
 bb:cx I d.ca d.aF d.cr 1 0 (d.ap.map (.int .i64 ·))
 ap:∀ x∈d.ap,eC x
 fb:d.t.size<=9223372036854775807
structure PA(I:aH)(t:bs):Prop where
 bb:cx I t.a t.n t.c 9 0 (t.ns.flatMap al.cells)
 ns:∀ d∈t.ns,Pz I d
 bx:eC t.bx
structure PB(I:aH)(d:a3):Prop where
 name:d.name.size<=9223372036854775807
 t:PA I d.t
structure KR(I:aH)(g:cE):Prop where
 bb:cx I g.a g.n g.c 3 0 (g.ds.flatMap a3.cells)
 ds:∀ d∈g.ds,PB I d
def cx.PC{n b ik:Nat}(h:cx I a n c size b vs)(ag:n*ik<=140737488355328):cx I a n c size ik vs:=⟨h.len,⟨h.cap.1,ag⟩,h.rd⟩
structure PD(d:al):Prop where
 aF:d.aF<2500
structure Xf(d:a3):Prop where
 name:d.name.size<2500
 n:d.t.n<2500
 ns:∀ cu∈d.t.ns,PD cu
structure aji(g:cE):Prop where
 n:g.n<2500
 ds:∀ d∈g.ds,Xf d
def Pz.ok{d:al}(h:Pz I d)(av:PD d):d.ok I:=
 ⟨h.k,h.cf,h.s1,h.s2,h.cH,h.fb,h.lo,h.hi,h.bb.PC (by have:=av.aF;omega),h.ap⟩
def PB.ok{d:a3}(h:PB I d)(av:Xf d):d.ok I:=
 ⟨by have:=av.name;omega,⟨h.t.bb.PC (by have:=av.n;omega),λcu b'=>(h.t.ns cu b').ok (av.ns cu b'),h.t.bx⟩⟩
def KR.ok{g:cE}(h:KR I g)(av:aji g):g.ok I:=
 ⟨h.bb.PC (by have:=av.n;omega),λd ai=>(h.ds d ai).ok (av.ds d ai)⟩
def KR.n{g:cE}(h:KR I g):g.ds.length=g.n:=by have:=h.bb.len;rw[hc _ 3 a3.cL]at this;omega
def PA.n(h:PA I t):t.ns.length=t.n:=by have:=h.bb.len;rw[hc _ 9 al.cL]at this;omega
def u7{x r:Int}(h:x=r)(af:-9223372036854775808<=r/\r<=9223372036854775807):IntKind.i64.wrap x=r:=by rw[h];exact wrap_i64 af
def aT.BZ{l:List Int}(h:os.ok 1 (l.map (.int .i64 ·)))(bc:∀ x∈os.ar e,x∈M){j:Nat}(ah:j<l.length) :
  ∃ aR,(os.a.map λg=>(⟨g,0,none⟩:Addr))=some aR/\c6 I M (aR.add (j*1)) 1 [.int .i64 l[j]]:=by
 obtain⟨a,n,c,aS⟩:=os;have az:=h.pK;simp only at az;cases a with
 |none=>have:=(h.nil rfl).1;simp only at this;omega
 |some g=>
  obtain⟨aa,ad,aj,aJ⟩:=h.cap g rfl;simp only at aa ad aJ;refine⟨⟨g,0,none⟩,rfl,?_⟩;rw[eM _ rfl];refine⟨rfl,_,_,_,.inr ⟨⟨g,.cells aS.toArray e (0,0)⟩,bc _ gc,rfl,rfl⟩,?_,rfl⟩;simp only[dn,gM];have jA:j<(l.map (Value.int .i64)).length:=by simpa using ah
  have aK:(aS.take (n*1))[j]?=some (.int .i64 l[j]):=by rw[aJ];simp[ah]
  rw[l5]at aK;have mV:j<n*1:=by omega
  rw[b2 mV]at aK;have Xg:j<aS.length:=(iP.1 aK).1;rw[e2 Xg,rf,qi];rw[dy Xg]at aK;rw[e1 aK]
section
end
section
end
def Xh{H:Type}{enc:TypeId×Value->H}{P:Program}(az:laidOutB P=true){W kH:World}(ae:BY W kH):∀ {fb:List TypeId} {vs:List Value} {ds:List (DataW H)} {ps:List MemPlace},(∀ t∈fb,P.readableRec t=true/\t<P.types.size) -> DataW.TrodAll enc P W 0 (λ_=>true) true fb vs ds ps->(∀ p∈ps,p.block<W.heap.size)->∀ iW:Nat->Bool,(∀ p∈ps,iW p.block=true)->DataW.TrodAll enc P kH 0 iW true fb vs ds ps
 |[],[],[],_,_,h,_,_,_=>h
 |t::fb,v::vs,d::ds,_,au,⟨p,q,aa,ad,e⟩,a1,iW,av=>by
  subst e;refine⟨p,q,?_,?_,rfl⟩
  ·refine Go.WideElems.Trod_stays az (au t (.head _)).1 (au t (.head _)).2 aa (λx ab=>?_) (λx ab=>av x (c1.2 (.inl ab)));have cI:=a1 x (c1.2 (.inl ab));cases x with
   |cell b o=>exact World.cell?_of_block (w:=W) (ae.dI b cI)| map b=>exact ae.dI b cI
  ·exact Xh az ae (λt h=>au t (.tail _ h)) ad (λx ab=>a1 x (c1.2 (.inr ab))) iW (λx ab=>av x (c1.2 (.inr ab)))
def ajj:mapsRowed Tryz.prog=true:=by kernel_rfl
def ajk:Tryz.prog.stopsHeard=true:=by kernel_rfl
def ajl:Tryz.prog.mayEnter=true:=by kernel_rfl
section
end
def B0:ga 0:=⟨bv,bv⟩
def i0:eC 0:=⟨bv,bv⟩
def PE{d:al}(ai:d.ok I):Spec Tryz.prog 108 [d.val] I [] λv I' M'=>(∀ b o,I b=some o->I' b=some o)/\∃ t:bs,v=t.val/\t.ok I'/\t.ns=[d]/\t.bx=0/\M'=[]:=by refine bU [] a0 Tryz.func108 rfl rfl rfl ?_;intro B ax;refine bQ.mk λb ag wu=>?_;refine⟨_,_,.kZ rfl am .refl,j0 ag,⟨[d],some ⟨b,0,none⟩,1,1,0⟩,rfl,⟨⟨rfl,⟨cc _,by show 1*96<=_;omega⟩,.inr ⟨_,rfl,rfl,_,_,_,mg ..,rfl⟩⟩,λx ab=>?_,i0⟩,rfl,rfl,rfl⟩;simp only[eL]at ab;subst ab;exact ai.mono (j0 ag)
def x8(k:Int)(s:ByteArray):al:=⟨k,0,0,0,0,s,0,0,none,0,0,[]⟩
def Xi{k:Int}(ae:0<=k/\k<256){s:ByteArray}(av:s.size<=140737488355328):(x8 k s).ok I:=
 ⟨ae,B0,B0,B0,B0,by show s.size<=_;omega,i0,i0,⟨rfl,⟨cc _,by show 0*8<=_;omega⟩,.inl rfl⟩,λx ab=>wl⟩
def Xj{s:ByteArray}(av:s.size<=140737488355328):Spec Tryz.prog 81 [.string s] I [] λv I' M'=>(∀ b o,I b=some o->I' b=some o)/\∃ t:bs,v=t.val/\t.ok I'/\t.ns=[x8 2 s]/\t.bx=0/\M'=[]:=by refine bU [] a0 Tryz.func81 rfl rfl rfl ?_;intro B ax;have az:=PE (I:=I) (Xi (k:=2) bv av);have ak:(x8 2 s).val=.agg #[.int .u8 2,.int .u64 0,.int .u64 0,.int .u64 0,.int .u64 0,.string s,.int .i64 0,.int .i64 0,.slice none 0 0]:=rfl;rw[ak]at az;refine a8.mk [] [] _ (.refl _) az ?_;rintro v I' M' -⟨bE,t,rfl,au,aa,ad,rfl⟩;exact⟨_,_,.refl,bE,t,rfl,au,aa,ad,rfl⟩
def ajm:Spec Tryz.prog 105 [] I [] λv I' M'=>(∀ b o,I b=some o->I' b=some o)/\∃ t:bs,v=t.val/\t.ok I'/\t.ns=[x8 0 ⟨#[]⟩]/\t.bx=0/\M'=[]:=by refine bU [] a0 Tryz.func105 rfl rfl rfl ?_;intro B ax;have az:=PE (I:=I) (Xi (k:=0) (s:=⟨#[]⟩) bv bv);have ak:(x8 0 ⟨#[]⟩).val=.agg #[.int .u8 0,.int .u64 0,.int .u64 0,.int .u64 0,.int .u64 0,.string ⟨#[]⟩,.int .i64 0,.int .i64 0,.slice none 0 0]:=rfl;rw[ak]at az;refine a8.mk [] [] _ (.refl _) az ?_;rintro v I' M' -⟨bE,t,rfl,au,aa,ad,rfl⟩;exact⟨_,_,.refl,bE,t,rfl,au,aa,ad,rfl⟩
def KS(d:al):Bool:=decide (d.t=⟨#[]⟩)&&(decide (d.lo=0)&&decide (d.hi=0))
def ajn(d:al)(n:Int):Bool:=
 bif decide (d.k=0)then KS d&&decide (n=0)else
 bif decide (d.k=1)then KS d&&decide (n=0)else
 bif decide (d.k=2)then decide (d.lo=0)&&(decide (d.hi=0)&&(decide (n=0)&&(decide ((1:Int)<=d.t.size)&&decide ((d.t.size:Int)<=255))))else
 bif decide (d.k=3)then decide (d.lo=0)&&(decide (d.hi=0)&&(decide (n=0)&&nv d.t))else
 bif decide (d.k=4)||decide (d.k=5)then KS d&&decide (2<=n)else
 bif decide (d.k=6)then decide (d.t=⟨#[]⟩)&&(decide (n=1)&&(decide (0<=d.lo)&&(decide (d.lo<=99)&&(decide (d.hi=-1)||(decide (d.lo<=d.hi)&&decide (d.hi<=99))))))else
 bif decide (d.k=7)||decide (d.k=8)then KS d&&decide (n=1)else
 bif decide (d.k=9)then decide (d.lo=0)&&(decide (d.hi=0)&&(decide (n=1)&&nv d.t))else false
def PF{bx:Int}:∀ {s:List Bool} {i j:Nat},j<s.length->(s.getD j false == decide (((i+j:Nat):Int)=bx))=true->rl bx i s=false
 |b::s,i,0,_,h=>by unfold rl;rw[show(b == decide ((i:Int)=bx))=true by simpa using h];rfl
 |b::s,i,j+1,ah,h=>by
  unfold rl;cases b == decide ((i:Int)=bx)with
  |true=>rfl| false=>simp only[cD];refine PF (j:=j) lm ?_;rw[show i+1+j=i+(j+1) by omega];simpa using h
def Xk{bx:Int}:∀ {s:List Bool} {i:Nat},(∀ j,j<s.length->(s.getD j false == decide (((i+j:Nat):Int)=bx))=false)->rl bx i s=true
 |[],i,h=>rfl| b::s,i,h=>by unfold rl;have ax:=h 0 am;rw[show(b == decide ((i:Int)=bx))=false by simpa using ax];simp only[cD];refine Xk λj ah=>?_;have:=h (j+1) lm;rw[show i+1+j=i+(j+1) by omega];simpa using this
structure Xl(I:aH)(a:Option Addr)(c:Nat)(k:Int)(s:ByteArray):Prop where
 bb:cx I a 1 c 9 96 (x8 k s).cells
def Xl.rd{k:Int}{s:ByteArray}(h:Xl I a c k s):∃ aR,a=some aR/\∀ M,c6 I M (aR.add (0*9)) 9 (x8 k s).cells:=by have:=cx.row (f:=al.cells) (l:=[x8 k s]) al.cL (size:=9) (j:=0) (by simpa using h.bb) bv (cc 1);simpa using this
def bC.cu{o:Oper}{K:fz}(h:bC X o F C I M (λF C I M=>(M.map (·.num)).Nodup->(∀ x∈M,I x.num=none)->K F C I M)):bC X o F C I M K:=
 ⟨λa w Q aM=>s6 (λbN w'=>λ⟨c7,C',I',M',⟨β,af⟩,ae⟩=>⟨c7,C',I',M',⟨β,af⟩,ae af.holds.cu af.holds.d⟩) (h.1 a w Q aM)⟩
def aT.zL{foot:List Nat}{b:Nat}(h:os.ok size xs)(ag:os.n*b<=140737488355328)(bE:∀ g,os.a=some g->I g=none/\g ∉ foot)(Mr:List aA) :
  ∃ I',(∀ ew dv,hS foot I' Mr ew dv->hS foot I (os.ar e++Mr) ew dv)/\(∀ b o,I b=some o->I' b=some o)/\cx I' (os.a.map λg=>⟨g,0,none⟩) os.n os.c size b xs/\(∀ g,os.a≠some g->I' g=I g):=by
 obtain⟨a,n,c,aS⟩:=os;cases a with
 |none=>obtain⟨aa,ad⟩:=h.nil rfl;simp only at aa ad;subst aa;subst ad;exact⟨I,λ_ _ k=>k,λ_ _ h=>h,⟨h.len,⟨cc _,am⟩,.inl rfl⟩,λ_ _=>rfl⟩
 |some g=>obtain⟨aa,ad,aj,aJ⟩:=h.cap g rfl;obtain⟨aw,ajo⟩:=bE g rfl;refine⟨ins I g (.cells aS.toArray e (0,0)),λ_ _ k=>.kZ rfl ajo k,j0 aw,⟨h.len,⟨ad,ag⟩,.inr ⟨⟨g,0,none⟩,rfl,rfl,_,_,_,mg ..,v6⟩⟩,λei jB=>?_⟩;have:ei≠g:=λe=>jB (by rw[e]);unfold ins;simp only[hF this,cD]
def Xm{ys:List Value}(b3:os.ok size xs){aS:List Value}(aG:ys.length=size)(aa:aS.length=c*size)(ad:os.n+1<=c)(aj:c<=maxLen)(aJ:aS.take ((os.n+1)*size)=xs++ys) :
  aT.ok ⟨some g,os.n+1,c,aS⟩ size (xs++ys):=by
 have az:=b3.len;refine⟨?_,(λh=>ci),λbW sA=>⟨aa,ad,aj,aJ⟩⟩;rw[cn,az,aG];simp only;rw[kx,nt]
abbrev KT:=bs×Int×ByteArray
def KT.cu(x:KT):al:=x8 x.2.1 x.2.2
structure KT.ok(I:aH)(x:KT):Prop where
 t:x.1.ok I
 ns:x.1.ns=[x.cu]
 bx:x.1.bx=0
 fits:ajn x.cu 0=true
def lS(ns:List al):Int->Nat:=mf 0 (λd g=>1+gO g d.ap) ns
def D6(af:right t=true){j:Nat}(ah:j<t.ns.length):lS t.ns j=1+gO (lS t.ns) t.ns[j].ap:=
 DF (λd g ei h=>by rw[WJ h]) af ah
def ajp(af:right t=true):lS t.ns t.bx<=t.ns.length:=by
 have:=OY af (g:=lS t.ns) (c:=λ_=>1) λj ah=>by rw[D6 af ah];exact cc _
 rwa [KD,nt]at this
def Xn{i:Nat}:∀ {ks:List Int} {s cq:List Bool},kD i ks s=some cq->∀ j,cq.getD j false=true->s.getD j false=true\/((j:Int)∈ks/\j<i)
 |[],s,cq,h,j,ah=>by simp only[kD,kr]at h;subst h;exact .inl ah
 |k::ks,s,cq,h,j,ah=>by
  unfold kD at h;cases ag:decide (k<0)||(decide ((i:Int)<=k)||s.getD k.toNat false)with
  |true=>rw[ag]at h;cases h
  |false=>
   rw[ag]at h;simp only[cD]at h;simp only[tk,ss]at ag;rcases Xn h j ah with aa | aa
   ·by_cases e:k.toNat=j
    ·right
     refine⟨?_,Z⟩;have:(j:Int)=k:=by omega
     rw[this];exact .head _
    ·left
     simp only[bT,iB]at aa |-;rwa [bS e]at aa
   ·exact .inr ⟨.tail _ aa.1,aa.2⟩
def Xo:∀ {ds:List al} {i:Nat} {s cq:List Bool},jr i ds s=some cq->∀ j,cq.getD j false=true->s.getD j false=true\/∃ q,∃ h:q<ds.length,(j:Int)∈ds[q].ap/\j<i+q
 |[],i,s,cq,h,j,ah=>by simp only[jr,kr]at h;subst h;exact .inl ah
 |d::ds,i,s,cq,h,j,ah=>by
  unfold jr at h;cases aE:fits d d.ap.length with
  |false=>rw[aE]at h;cases h
  |true=>
   rw[aE]at h;simp only[cF]at h;split at h
   ·rename_i s1 gw;rcases Xo h j ah with aa | ⟨q,aO,aa,ad⟩
    ·rcases Xn gw j aa with aj | ⟨aj,aJ⟩
     ·exact .inl aj
     ·exact .inr ⟨0,am,aj,Z⟩
    ·exact .inr ⟨q+1,by simpa using aO,rx,Z⟩
   ·cases h
def Xp(af:right t=true){j:Nat}(ah:j<t.ns.length)(bz:(j:Int)≠t.bx):∃ p,∃ h:p<t.ns.length,(j:Int)∈t.ns[p].ap/\j<p:=by
 unfold right at af;simp only[cC]at af;obtain⟨_,_,af⟩:=af;split at af
 ·rename_i s av;have gY:=(OX (g:=λ_=>0) (c:=λ_=>0) av am (λj ah=>am)).1;have hm:s.getD j false=true:=by
   cases ag:s.getD j false with
   |true=>rfl| false=>have:=PF (bx:=t.bx) (s:=s) (i:=0) (j:=j) (by rw[gY];simpa using ah) (by rw[ag,dn];simp[bz]);rw[this]at af;cases af
  rcases Xo av j hm with aa | ⟨q,aO,aa,ad⟩;·simp[bT,ah]at aa
  ·exact⟨q,aO,aa,Z⟩
 ·cases af
def Xq{g:Int->Nat}:∀ {ks:List Int} {k:Int},k∈ks->g k<=gO g ks
 |a::ks,k,h=>by
  simp only[gO,b0,hr];rcases er.1 h with rfl | h;·omega
  ·have:=Xq (g:=g) h;simp only[gO]at this;omega
def Hf{t:bs}(af:right t=true):∀ (m j:Nat),j<t.ns.length->t.ns.length-j<=m->lS t.ns j<=t.ns.length
 |0,j,ah,hm=>by omega
 |m+1,j,ah,hm=>by
  by_cases e:(j:Int)=t.bx;·rw[e];exact ajp af
  ·obtain⟨p,aI,ae,a1⟩:=Xp af ah e;have aa:=Hf af m p aI Z;rw[D6 af aI]at aa;have:=Xq (g:=lS t.ns) ae;omega
def Hg(g:Int->Nat)(a b:List Int):gO g (a++b)=gO g a+gO g b:=by simp[gO]
def KU{t:bs}(af:right t=true):∀ {l:List Int},valid t.ns.length l->l.length<=gO (lS t.ns) l
 |[],_=>by simp
 |a::l,ak=>by have aa:=KU af (l:=l) λk ae=>ak k (.tail _ ae);have ad:=ak a (.head _);obtain⟨a,rfl⟩:=eh ad.1;have aj:=D6 af (j:=a) Z;simp only[gO,b0,hr,ep]at aa |-;have aJ:lS t.ns (Int.ofNat a)=lS t.ns a:=rfl;omega
def tF(ns:List al):Nat->List Int->List Int->List Int
 |0,_,b=>b
 |f+1,todo,b=>match todo.getLast? with
  |none=>b| some n=>tF ns f (todo.dropLast++(nodeAt ns n.toNat).ap) (b++[n])
def zM(ns:List al)(node:Int):List Int:=tF ns (ns.length+1) [node] []
def Xr(ns:List al)(f:Nat)(b:List Int):tF ns f [] b=b:=by cases f<;>rfl
def Xs(ns:List al)(f:Nat)(todo:List Int)(n:Int)(b:List Int):tF ns (f+1) (todo++[n]) b=tF ns f (todo++(nodeAt ns n.toNat).ap) (b++[n]):=by rw[tF];simp only[List.getLast?_concat,List.dropLast_concat]
def al.aW(d:al):al:=⟨d.k,d.cf,d.s1,d.s2,d.cH,d.t,d.lo,d.hi,none,0,0,d.ap⟩
def al.dX(d:al)(l:List Int):al:=⟨d.k,d.cf,d.s1,d.s2,d.cH,d.t,d.lo,d.hi,none,0,0,l⟩
def B1(ns:List al)(a2:List Int×List al)(b:Int):List Int×List al:=
 (a2.1.set b.toNat a2.2.length,a2.2++[(nodeAt ns b.toNat).dX ((nodeAt ns b.toNat).ap.map λk=>(a2.1.set b.toNat a2.2.length).getD k.toNat 0)])
def nI(ns:List al)(node:Int):List al:=((zM ns node).reverse.foldl (B1 ns) (List.replicate ns.length 0,[])).2
def aT.pop{x:Value}(h:os.ok 1 (xs++[x])):aT.ok ⟨os.a,os.n-1,os.c,os.aS⟩ 1 xs:=by
 have az:=h.len;simp only[cn,ep,hj,gM]at az;refine⟨ce,λa7=>?_,λg aw=>?_⟩
 ·have:=h.nil a7;simp only;omega
 ·obtain⟨aa,ad,aj,aJ⟩:=h.cap g aw;refine⟨aa,ce,aj,?_⟩;simp only;have e:os.n*1=xs.length+1:=by omega
  rw[e]at aJ;have:os.aS.take xs.length=(os.aS.take (xs.length+1)).take xs.length:=by rw[zh];congr 1;omega
  rw[show(os.n-1)*1=xs.length by omega,this,aJ,uG]
structure ajq(t:bs)(node:Int)(x:aT×List Int×aT×List Int×Nat):Prop where
 todo:x.1.ok 1 (x.2.1.map (.int .i64 ·))
 back:x.2.2.1.ok 1 (x.2.2.2.1.map (.int .i64 ·))
 awX:valid t.ns.length x.2.1
 awY:valid t.ns.length x.2.2.2.1
 sum:gO (lS t.ns) x.2.1+x.2.2.2.1.length=lS t.ns node
 jo:gO (lS t.ns) x.2.1+1<=x.2.2.2.2
 eq:zM t.ns node=tF t.ns x.2.2.2.2 x.2.1 x.2.2.2.1
structure Xt(I:aH)(t:bs)(rb:List Int)(x:Nat×List Int×aT×List al×aH):Prop where
 j:x.1<=rb.length
 len:x.2.1.length=t.ns.length
 out:x.2.2.1.ok 9 (x.2.2.2.1.flatMap al.cells)
 on:x.2.2.2.1.length=x.1
 eq:(rb.take x.1).foldl (B1 t.ns) (List.replicate t.ns.length 0,[])=(x.2.1,x.2.2.2.1.map al.aW)
 ok:∀ d∈x.2.2.2.1,d.ok x.2.2.2.2
 le:∀ b o,I b=some o->x.2.2.2.2 b=some o
 awZ:∀ c∈x.2.1,0<=c/\c<=rb.length
 PG:∀ d∈x.2.2.2.1,∀ k∈d.ap,0<=k/\k<=rb.length
structure aX where
 z:Bool
 s:Bool
 f:Bool
 deriving DecidableEq
def aX.cells(x:aX):List Value:=[.bool x.z,.bool x.s,.bool x.f]
def aX.val(x:aX):Value:=.agg #[.bool x.z,.bool x.s,.bool x.f]
def aX.cL(x:aX):x.cells.length=3:=rfl
def aX.jI(x:aX):Bool:=x.z||x.s
def ajr(x y:aX)(p q:Operand)(w:World):(do eqGuard .neq 333 p q x.val y.val;binOp .neq 333 x.val y.val:Sem Value).run Tryz.prog w=.ok (.bool (!decide (x=y))) w:=by
 obtain⟨a,b,c⟩:=x;obtain⟨d,e,f⟩:=y;cases a<;>cases b<;>cases c<;>cases d<;>cases e<;>cases f<;>kernel_rfl
def fL.Xu{p q:aX}{V:Value->Prop}(h:V (.bool (!decide (p=q)))):fL Tryz.prog .neq 333 x y (.val (.agg #[.bool p.z,.bool p.s,.bool p.f])) (.val (.agg #[.bool q.z,.bool q.s,.bool q.f])) V other:=
 .mk _ _ _ rfl rfl (λw=>ajr p q x y w) h
def PH{s:Bool}{x:aX}(aa:z=x.z)(ad:s=x.s)(aj:f=x.f):Value.agg #[.bool z,.bool s,.bool f]=x.val:=by subst aa ad aj;rfl
def Xv{s:Bool}{x:aX}(aa:z=x.z)(ad:s=x.s)(aj:f=x.f):[Value.bool z,Value.bool s,Value.bool f]=x.cells:=by subst aa ad aj;rfl
def ajs{a b:Bool}(h:a=b):y4 (.val (.bool a)) (.val (.bool b)):=by subst h;exact .refl
def KV{a b:Bool}(h:a=b):y4 (.lit a) (.val (.bool b)):=by subst h;exact .lit
def perm_nil:M.Perm (M++[]):=by simp
theorem fL.ajt{E:Env}(aL:cU P E){t:Nat}{aB:dH}(au:E t=some cS)(dt:cS.bL=.array 4 e)(he:E e=some aB){k:IntKind}(ke:aB.bL=.int k)(aw:P.eqGuardType P.depth t=false){fZ cP ek ez qp b1 bH cJ:Int}{V:Value->Prop}
  (h:V (.bool (!(fZ == qp&&(cP == b1&&(ek == bH&&ez == cJ)))))):fL P .neq t x y (.val (.agg #[.int k fZ,.int k cP,.int k ek,.int k ez])) (.val (.agg #[.int k qp,.int k b1,.int k bH,.int k cJ])) V other:=by
 obtain⟨d,fJ,fj⟩:=(aL _ _ au).fp;obtain⟨qq,OG,OH⟩:=(aL _ _ he).fp;obtain⟨inf,z,hi,fq,_⟩:=(aL _ _ he).inf;have aa:d=.array 4 e:=by rw[dt]at fj;cases d<;>simp_all[fo]
 have ad:qq=.int k:=by rw[ke]at OH;cases qq<;>simp_all[fo]
 subst aa;subst ad;have gw:inf.size=1:=by rw[fq];exact(aL _ _ he).JN (by rw[ke];rfl)
 refine .mk _ _ _ rfl rfl (λw=>?_) h;simp only[cp,run_eqGuard_agg (hm:=aw),bY,binOp,VH fJ OG hi gw,db]
def PI(x:aX):Spec Tryz.prog 379 [x.val] I M λv I' M'=>v=.bool x.jI/\I'=I/\M'=M:=by
 obtain⟨a,b,c⟩:=x;refine bU [] a0 Tryz.func379 rfl rfl rfl ?_;intro B ax;refine b5.mk (λh=>?_) (λh=>?_)
 ·exact⟨_,_,.refl,by rw[show a=false from h];rfl,rfl,rfl⟩
 ·exact⟨_,_,.refl,by rw[show a=true from h];rfl,rfl,rfl⟩
structure lT(I:aH)(M:List aA)(a:Option Addr)(n:Nat)(ks:List aX):Prop where
 n:ks.length=n
 rd:∀ j (h:j<ks.length),∃ aR,a=some aR/\c6 I M (aR.add (j*3)) 3 ks[j].cells
def kM(a2:aX×Bool)(k:aX):aX×Bool:=(⟨a2.1.z&&k.z,a2.1.s||k.s,a2.1.f||(a2.2&&k.f)⟩,a2.2&&k.jI)
def hv(ks:List aX):aX×Bool:=ks.foldl kM (⟨true,false,false⟩,true)
def hn(ks:List aX):aX:=⟨(hv ks).1.z,(hv ks).1.s&&(hv ks).2,(hv ks).1.f⟩
def oL(f k:aX):aX:=⟨f.z||(f.f&&k.z),f.s||(f.f&&k.s),f.f&&k.f⟩
def pM(ks:List aX):aX:=ks.foldl oL ⟨false,false,true⟩
def cg:aX:=⟨false,false,false⟩
def x9(d:al)(k:aX):aX:=bif decide (d.hi=0)then⟨true,false,false⟩else⟨k.z||(decide (d.lo=0)&&k.f),k.s,decide (0<d.lo)&&k.f⟩
def gz(d:al)(ks:List aX):aX:=
 bif decide (d.k=0)then⟨true,false,false⟩else
 bif decide (d.k=1)then⟨false,!d.kC,true⟩else
 bif decide (d.k=2)then⟨false,true,true⟩else
 bif decide (d.k=3)then ks.headD cg else
 bif decide (d.k=4)then hn ks else
 bif decide (d.k=5)then pM ks else
 bif decide (d.k=6)then x9 d (ks.headD cg)else
 bif decide (d.k=7)then⟨(ks.headD cg).jI,false,(ks.headD cg).f⟩else
 bif decide (d.k=8)then⟨(ks.headD cg).f,false,(ks.headD cg).jI⟩else ks.headD cg
section
variable{I:aH}{M:List aA}{d:al}{a:Option Addr}{n c:Nat}{ks:List aX}
def lT.head(ae:lT I M a n ks)(ax:0<n):∃ aR,a=some aR/\c6 I M (aR.add (0*3)) 3 (ks.headD cg).cells:=by
 have aa:0<ks.length:=by rw[ae.n];exact ax
 obtain⟨aR,ad,aj⟩:=ae.rd 0 aa;refine⟨aR,ad,?_⟩;cases ks with
 |nil=>simp at aa| cons k ks=>exact aj
def aju:Spec Tryz.prog 351 [d.val,.slice a n c] I M λv I' M'=>v=aX.val ⟨true,false,false⟩/\I'=I/\M'=M:=by refine bU [] a0 Tryz.func351 rfl rfl rfl ?_;intro B ax;exact⟨_,_,.refl,rfl,rfl,rfl⟩
def ajv:Spec Tryz.prog 353 [d.val,.slice a n c] I M λv I' M'=>v=aX.val ⟨false,true,true⟩/\I'=I/\M'=M:=by refine bU [] a0 Tryz.func353 rfl rfl rfl ?_;intro B ax;exact⟨_,_,.refl,rfl,rfl,rfl⟩
def Xw(ae:lT I M a n ks)(ax:0<n):Spec Tryz.prog 354 [d.val,.slice a n c] I M λv I' M'=>v=(ks.headD cg).val/\I'=I/\M'=M:=by refine bU [] a0 Tryz.func354 rfl rfl rfl ?_;intro B iC;obtain⟨aR,bI,bo⟩:=ae.head ax;refine bt.mk aR 0 bI rfl ax ?_;refine aU.mk _ bo ?_;exact⟨_,_,.refl,rfl,rfl,rfl⟩
def ajw(ae:lT I M a n ks)(ax:0<n):Spec Tryz.prog 358 [d.val,.slice a n c] I M λv I' M'=>v=aX.val ⟨(ks.headD cg).jI,false,(ks.headD cg).f⟩/\I'=I/\M'=M:=by refine bU [] a0 Tryz.func358 rfl rfl rfl ?_;intro B iC;obtain⟨aR,bI,bo⟩:=ae.head ax;refine cY.draw a0 rfl rfl rfl ?_;refine bt.mk aR 0 bI rfl ax ?_;refine aU.mk _ bo ?_;refine bt.mk aR 0 bI rfl ax ?_;refine aU.mk _ (bo.part (k:=2) (m:=1) bv) ?_;refine ev.oy M [] _ perm_nil (PI (ks.headD cg)) (λv I' M' h x ab=>i4) ?_;rintro v I' M' -⟨rfl,rfl,rfl⟩;rw[dK];exact⟨_,_,.refl,rfl,rfl,rfl⟩
def ajx(ae:lT I M a n ks)(ax:0<n):Spec Tryz.prog 359 [d.val,.slice a n c] I M λv I' M'=>v=aX.val ⟨(ks.headD cg).f,false,(ks.headD cg).jI⟩/\I'=I/\M'=M:=by refine bU [] a0 Tryz.func359 rfl rfl rfl ?_;intro B iC;obtain⟨aR,bI,bo⟩:=ae.head ax;refine cY.draw a0 rfl rfl rfl ?_;refine bt.mk aR 0 bI rfl ax ?_;refine aU.mk _ (bo.part (k:=2) (m:=1) bv) ?_;refine bt.mk aR 0 bI rfl ax ?_;refine aU.mk _ bo ?_;refine ev.oy M [] _ perm_nil (PI (ks.headD cg)) (λv I' M' h x ab=>i4) ?_;rintro v I' M' -⟨rfl,rfl,rfl⟩;rw[dK];exact⟨_,_,.refl,rfl,rfl,rfl⟩
def ajy:Spec Tryz.prog 352 [d.val,.slice a n c] I M λv I' M'=>v=aX.val ⟨false,!d.kC,true⟩/\I'=I/\M'=M:=by refine bU [] a0 Tryz.func352 rfl rfl rfl ?_;intro B ax;refine fL.ajt a0 (e:=34) rfl rfl rfl rfl d0 ?_;exact⟨_,_,.refl,rfl,rfl,rfl⟩
theorem ajz(ae:lT I M a n ks)(ax:0<n):Spec Tryz.prog 357 [d.val,.slice a n c] I M λv I' M'=>v=(x9 d (ks.headD cg)).val/\I'=I/\M'=M:=by
 refine bU [] a0 Tryz.func357 rfl rfl rfl ?_;intro B iC;obtain⟨aR,bI,bo⟩:=ae.head ax;generalize ks.headD cg=k at bo;obtain⟨PJ,PK,PL⟩:=k;refine aZ.mk (λh=>?_) (λh=>?_)
 ·refine⟨_,_,.refl,PH ?_ ?_ ?_,rfl,rfl⟩<;>simp[x9,h]
 refine bt.mk aR 0 bI rfl ax ?_;refine aU.mk _ bo ?_
 repeat' refine b5.mk (λh=>?_) (λh=>?_)
 all_goals refine⟨_,_,.refl,PH ?_ ?_ ?_,rfl,rfl⟩
 all_goals first | (simp_all[x9];done) | (simp_all[x9];intros;omega)
theorem ajA(ae:lT I M a n ks)(aC:n<=140737488355328):Spec Tryz.prog 356 [d.val,.slice a n c] I M λv I' M'=>v=(pM ks).val/\I'=I/\M'=M:=by
 refine bU [] a0 Tryz.func356 rfl rfl rfl ?_;intro B iC;have fh:=ae.n;refine du.inv (ι:=Nat×aX) (λx=>{ bp:=[(4,.ref 4 0),(5,.ref 5 0),(9,.val (.slice a n c)),(10,.val (.int .i64 n)),(11,.val (.int .i64 x.1))],cl:=[(4,cg.cells),(5,x.2.cells)],cO:=I,c5:=M }) (λx=>x.1<=n/\x.2=(ks.take x.1).foldl oL ⟨false,false,true⟩) (λx=>n-x.1) ?_ ?_
 ·exact⟨(0,⟨false,false,true⟩),⟨dQ _,rfl⟩,.refl,hh,.cons rfl (.cons rfl .nil)⟩
 rintro⟨i,f⟩⟨hi,aE⟩;simp only at hi aE;refine aZ.mk (λh=>?_) (λh=>?_)
 rotate_left
 ·have cV:n<=i:=by have:=dU h;omega
  refine⟨_,_,.refl,?_,rfl,rfl⟩;rw[fD Z]at aE;rw[pM,<-aE];rfl
 have a1:i<n:=by have:=cT h;omega
 obtain⟨aR,bI,bo⟩:=ae.rd i Z;have ff:∀ g:aX,g=oL f (ks[i]' Z)->g=(ks.take (i+1)).foldl oL ⟨false,false,true⟩:=λg aw=>by rw[gk Z,tB,<-aE,aw];rfl
 generalize ks[i]' Z=k at bo ff;obtain⟨PJ,PK,PL⟩:=k;obtain⟨z,s,PM⟩:=f;refine bt.mk aR i bI rfl a1 ?_;refine aU.mk _ bo ?_
 repeat' refine b5.mk (λh=>?_) (λh=>?_)
 all_goals refine be.mk _ (c9 (i:=i) Z) ?_
 all_goals refine⟨(i+1,_),⟨⟨ce,ff _ rfl⟩,ce⟩,.refl,hh,.cons rfl (.cons ?_ .nil)⟩
 all_goals clear ff aE bo
 all_goals (refine congrArg some (Xv ?_ ?_ ?_)<;>simp_all[oL])
def ajB(l:List aX)(k:aX):hv (l++[k])=kM (hv l) k:=by simp[hv]
theorem ajC(ae:lT I M a n ks)(aC:n<=140737488355328):Spec Tryz.prog 355 [d.val,.slice a n c] I M λv I' M'=>v=(hn ks).val/\I'=I/\M'=M:=by
 refine bU [] a0 Tryz.func355 rfl rfl rfl ?_;intro B iC;have fh:=ae.n;refine du.inv (ι:=Nat×aX×Bool) (λx=>{ bp:=[(4,.ref 4 0),(5,.ref 5 0),(6,.val (.bool x.2.2)),(10,.val (.slice a n c)),(11,.val (.int .i64 n)),(12,.val (.int .i64 x.1))],cl:=[(4,cg.cells),(5,x.2.1.cells)],cO:=I,c5:=M }) (λx=>x.1<=n/\x.2=hv (ks.take x.1)) (λx=>n-x.1) ?_ ?_
 ·exact⟨(0,⟨true,false,false⟩,true),⟨dQ _,rfl⟩,.refl,.cons .refl (.cons .refl (.cons .lit (fQ))),.cons rfl (.cons rfl .nil)⟩
 rintro⟨i,f,Hh⟩⟨hi,aE⟩;simp only at hi aE;refine aZ.mk (λh=>?_) (λh=>?_)
 rotate_left
 ·have cV:n<=i:=by have:=dU h;omega
  rw[fD Z]at aE;obtain⟨z,s,PM⟩:=f;have aK:(hv ks).1=⟨z,s,PM⟩:=by rw[<-aE]
  have ba:(hv ks).2=Hh:=by rw[<-aE]
  refine b5.mk (λad=>?_) (λad=>?_)
  all_goals refine⟨_,_,.refl,PH ?_ ?_ ?_,rfl,rfl⟩
  all_goals simp_all[hn]
 have a1:i<n:=by have:=cT h;omega
 obtain⟨aR,bI,bo⟩:=ae.rd i Z;have ff:∀ g:aX×Bool,g=kM (f,Hh) (ks[i]' Z)->g=hv (ks.take (i+1)):=λg aw=>by rw[gk Z,ajB,<-aE,aw]
 generalize ks[i]' Z=k at bo ff;obtain⟨PJ,PK,PL⟩:=k;obtain⟨z,s,PM⟩:=f;refine bt.mk aR i bI rfl a1 ?_;refine aU.mk _ bo ?_
 repeat' first
  |refine b5.mk (λh=>?_) (λh=>?_)|(refine a8.mk M [] _ perm_nil (PI ⟨PJ,PK,PL⟩) ?_;rintro v I' M' -⟨rfl,rfl,rfl⟩;rw[dK])
 all_goals refine be.mk _ (c9 (i:=i) Z) ?_
 all_goals refine⟨(i+1,_),⟨⟨ce,ff _ rfl⟩,ce⟩,.refl,.cons .refl (.cons .refl (.cons ?_ (fQ))),.cons rfl (.cons ?_ .nil)⟩
 all_goals clear ff aE bo
 all_goals first
  |(refine congrArg some (Xv ?_ ?_ ?_)<;>simp_all[kM])|(refine ajs ?_;simp_all[kM])|(refine KV ?_;simp_all[kM])
end
def tG(t:bs):List al:=nI t.ns t.bx
def c6.mono{a:Addr}{n:Nat}(h:c6 I M a n vs)(bE:∀ b o,I b=some o->I' b=some o):c6 I' M a n vs:=by obtain⟨aa,cs,T,an,ad,aj⟩:=h;exact⟨aa,cs,T,an,ad.imp (bE _ _) id,aj⟩
def c6.sub{I:aH}{M M':List aA}{a:Addr}{n:Nat}{vs:List Value}(h:c6 I M a n vs)(bc:∀ x∈M,x∈M'):c6 I M' a n vs:=by obtain⟨aa,cs,T,an,ad,aj⟩:=h;refine⟨aa,cs,T,an,ad.imp id ?_,aj⟩;rintro⟨x,ab,aK,ba⟩;exact⟨x,bc x ab,aK,ba⟩
def ja(a2:List al×List Int)(l:List al):List al×List Int:=
 (a2.1++l.map (λx=>x.dX (x.ap.map λk=>(a2.1.length:Int)+k)),a2.2++[((a2.1.length+l.length:Nat):Int)-1])
def sJ(d:al)(fU:List (List al)):List al:=(fU.foldl ja ([],[])).1++[d.dX (fU.foldl ja ([],[])).2]
structure ajD(I:aH)(L:List bs)(x:Nat×aT×List al×aT×List Int×aH):Prop where
 i:x.1<=L.length
 out:x.2.1.ok 9 (x.2.2.1.flatMap al.cells)
 cb:x.2.2.2.1.ok 1 (x.2.2.2.2.1.map (.int .i64 ·))
 ft:x.2.2.2.2.1.length=x.1
 eq:((L.take x.1).map tG).foldl ja ([],[])=(x.2.2.1.map al.aW,x.2.2.2.2.1)
 ok:∀ d∈x.2.2.1,d.ok x.2.2.2.2.2
 le:∀ b o,I b=some o->x.2.2.2.2.2 b=some o
 n:x.2.2.1.length<=((L.take x.1).map (·.n)).sum
 PG:∀ k∈x.2.2.2.2.1,-1<=k/\k<=((L.take x.1).map (·.n)).sum
def Xx(L:List bs)(i:Nat):((L.take i).map (·.n)).sum<=(L.map (·.n)).sum:=by have h:=congrArg (λl:List bs=>(l.map (·.n)).sum) (px i L);simp only[cR,pG]at h;omega
def Xy(L:List bs)(i:Nat)(hi:i<L.length):((L.take (i+1)).map (·.n)).sum=((L.take i).map (·.n)).sum+L[i].n:=by rw[gk hi,cR,pG];simp
section
variable{X:cN}{β:Nat->Nat}{a:Act}{w:World}{F:Fr}{C:de}{I:aH}{M:List aA}{o:Oper}{Q:Exit->Act->World->Prop}{K:fz}
theorem Xz(aL:cU X.P X.E){t:Nat}{k:Nat}(au:X.E t=some cS)(dt:cS.bL=.map k e)(ae:X.E k=some uV)(eH:uV.bL=.string)(bg:∀ w,(zeroValue e).run X.P w=.ok (.int .i64 0) w){s:ByteArray}(aw:w.heap[g]?=some (jt l))(ok:Bool) :
  (Instr.lookup t (.map (some g)) (.string s) ok).run X.P w=.ok (bif ok then .tuple #[.int .i64 ((eP s l).getD 0),.bool (eP s l).isSome]else .int .i64 ((eP s l).getD 0)) w:=by
 obtain⟨d,fJ,fj⟩:=(aL _ _ au).fp;have aa:d=.map k e:=by rw[dt]at fj;cases d<;>simp_all[fo]
 subst aa;obtain⟨dF,sI,gm⟩:=(aL _ _ ae).fp;have ad:dF=.string:=by rw[eH]at gm;cases dF<;>simp_all[fo]
 subst ad;have aw:w.heap[g]?=some (.map (oK l 0).toArray l.length):=aw;obtain⟨r,vZ,mj⟩:=KJ s l 0 0;have ao:(Instr.checkKey (oK l 0).toArray.isEmpty 10000 k (.string s)).run X.P w=.ok () w:=DQ (k:=.string s) sI ay9 _ 9999;have u4:(Instr.findKey k (.string s) (oK l 0)).run X.P w=.ok r w:=DR sI vZ;unfold Instr.lookup;simp only[cp,run_underlying fJ,bY,DP aw,db,ao,u4];cases r with
 |none=>
  cases az:eP s l with
  |none=>cases ok<;>simp[bg]
  |some v=>rw[az]at mj;simp at mj
 |some p=>
  cases az:eP s l with
  |none=>rw[az]at mj;simp at mj
  |some v=>
   rw[az]at mj;simp only[kW,kr]at mj;cases ok<;>simp[mj]
def bC.XA(aL:cU X.P X.E){t:Nat}(aD:o.op=.lookup t x y true)(ai:∀ d,o.dst=some d->d<X.n){k:Nat}(au:X.E t=some cS)(dt:cS.bL=.map k e)(ae:X.E k=some uV)(eH:uV.bL=.string)(bg:∀ w,(zeroValue e).run X.P w=.ok (.int .i64 0) w){s:ByteArray}(ab:bG F x=.val (.map (some g)))(aG:bG F y=.val (.string s))(bc:h4 I M g (jt l))
  (h:K (put o.dst (.val (.tuple #[.int .i64 ((eP s l).getD 0),.bool (eP s l).isSome])) F) C I M):bC X o F C I M K:=by
 refine⟨λa w Q ⟨β,aM⟩=>?_⟩;have e':=Xz aL au dt ae eH bg (bc.heap aM.holds) (s:=s) true;have ex:=df aM.an ab;have oD:=df aM.an aG;refine vY aM ai f7 ?_ h;unfold execOp;simp only[aD,ex,oD,cp,e',bY,db,cF]
def bC.ajE(aL:cU X.P X.E){t:Nat}(aD:o.op=.lookup t x y false)(ai:∀ d,o.dst=some d->d<X.n){k:Nat}(au:X.E t=some cS)(dt:cS.bL=.map k e)(ae:X.E k=some uV)(eH:uV.bL=.string)(bg:∀ w,(zeroValue e).run X.P w=.ok (.int .i64 0) w){s:ByteArray}(ab:bG F x=.val (.map (some g)))(aG:bG F y=.val (.string s))(bc:h4 I M g (jt l))
  (h:K (put o.dst (.val (.int .i64 ((eP s l).getD 0))) F) C I M):bC X o F C I M K:=by
 refine⟨λa w Q ⟨β,aM⟩=>?_⟩;have e':=Xz aL au dt ae eH bg (bc.heap aM.holds) (s:=s) false;have ex:=df aM.an ab;have oD:=df aM.an aG;refine vY aM ai f7 ?_ h;unfold execOp;simp only[aD,ex,oD,cp,e',bY,db,cD]
end
def n7:List (ByteArray×Int)->Nat->List a3->List (ByteArray×Int)
 |a5,_,[]=>a5| a5,i,d::ds=>n7 (bif (eP d.name a5).isSome then a5 else a5++[(d.name,(i:Int))]) (i+1) ds
def bM(ds:List a3):List (ByteArray×Int):=n7 [] 0 ds
def XB{g:cE}(aw:g.ok I):Spec Tryz.prog 320 [g.val] I [] λv I' M'=>(∀ b o,I b=some o->I' b=some o)/\M'=[]/\∃ hx,v=.map (some hx)/\I' hx=some (jt (bM g.ds)):=by
 refine xF [] a0 Tryz.func320 rfl rfl rfl ?_;intro B ax;have ic:=aw.n;have hk:=aw.bb.cap;refine bC.makeMap a0 rfl am rfl rfl rfl λjH=>?_;refine du.inv (ι:=Nat×List (ByteArray×Int)) (λx=>{ bp:=[(1,.ref 1 0),(3,.val (.map (some jH))),(13,.val (.slice g.a g.n g.c)),(14,.val (.int .i64 g.n)),(15,.val (.int .i64 x.1))],cl:=[(1,[.slice g.a g.n g.c])],cO:=I,c5:=[⟨jH,jt x.2⟩] }) (λx=>x.1<=g.n/\bM g.ds=n7 x.2 x.1 (g.ds.drop x.1)) (λx=>g.n-x.1) ?_ ?_
 ·exact⟨(0,[]),⟨dQ _,rfl⟩,.refl,hh,.cons rfl .nil⟩
 rintro⟨i,a5⟩⟨hi,aI⟩;simp only at hi aI;refine aZ.mk (λh=>?_) (λh=>?_)
 ·have a1:i<g.n:=by have:(i:Int)<(g.n:Int):=cT h;omega
  have cI:i<g.ds.length:=by omega
  obtain⟨aR,bI,bo⟩:=aw.bb.row a3.cL a1 cI;rw[e2 cI,n7]at aI;refine bt.mk aR i bI rfl a1 ?_;refine aU.mk _ (bo _) ?_;refine bC.XA a0 rfl am rfl rfl rfl rfl (λw=>G8 w) (l:=a5) (g:=jH) rfl rfl (.inr ⟨_,.head _,rfl,rfl⟩) ?_;refine aZ.mk (λaj=>?_) (λaj=>?_)
  ·have aC:(eP g.ds[i].name a5).isSome=false:=by simpa using aj
   have az:eP g.ds[i].name a5=none:=by simpa using aC
   rw[aC,cD]at aI;refine bC.W2 a0 rfl rfl rfl rfl rfl rfl rfl rfl rfl az (Mr:=[]) (.refl _) ?_;refine be.mk _ (c9 (i:=i) Z) ?_;exact⟨(i+1,_),⟨⟨ce,aI⟩,ce⟩,.refl,hh,.cons rfl .nil⟩
  ·have aC:(eP g.ds[i].name a5).isSome=true:=by simpa using aj
   rw[aC,cF]at aI;refine be.mk _ (c9 (i:=i) Z) ?_;exact⟨(i+1,_),⟨⟨ce,aI⟩,ce⟩,.refl,hh,.cons rfl .nil⟩
 have cV:g.n<=i:=by have:¬ (i:Int)<(g.n:Int):=dU h;omega
 rw[mc Z,n7]at aI;intro eY;have ag:=eY.d ⟨jH,jt a5⟩ (.head _);exact⟨_,_,.kZ rfl am .refl,j0 ag,rfl,jH,rfl,by rw[aI];exact mg ..⟩
def ajF:List Nat:=[351,352,353,354,355,356,357,358,359,354]
def PN:List Value:=[.func (.func 351) #[] #[],.func (.func 352) #[] #[],.func (.func 353) #[] #[],.func (.func 354) #[] #[],.func (.func 355) #[] #[],.func (.func 356) #[] #[],.func (.func 357) #[] #[],.func (.func 358) #[] #[],.func (.func 359) #[] #[],.func (.func 354) #[] #[]]
def ajG:Spec Tryz.prog 340 [] I [] λv I' M'=>v=.agg PN.toArray/\I'=I/\M'=[]:=by refine bU [] a0 Tryz.func340 rfl rfl rfl ?_;intro B ax;exact⟨_,_,.refl,rfl,rfl,rfl⟩
def wD{d:al}{n:Nat}{ks:List aX}(ae:lT I M a n ks)(aC:n<=140737488355328)(j:Nat)(ah:j<10)(ai:d.k=j)(ax:(j=3\/6<=j)->0<n) :
  Spec Tryz.prog (ajF.getD j 0) [d.val,.slice a n c] I M λv I' M'=>v=(gz d ks).val/\I'=I/\M'=M:=by
 match j,ah,ai,ax with
 |0,_,ai,_=>rw[show gz d ks=⟨true,false,false⟩ by simp[gz,ai]];exact aju (I:=I) (M:=M) (d:=d) (a:=a) (n:=n) (c:=c)| 1,_,ai,_=>rw[show gz d ks=⟨false,!d.kC,true⟩ by simp[gz,ai]];exact ajy (I:=I) (M:=M) (d:=d) (a:=a) (n:=n) (c:=c)| 2,_,ai,_=>rw[show gz d ks=⟨false,true,true⟩ by simp[gz,ai]];exact ajv (I:=I) (M:=M) (d:=d) (a:=a) (n:=n) (c:=c)| 3,_,ai,ax=>rw[show gz d ks=ks.headD cg by simp[gz,ai]];exact Xw (d:=d) (c:=c) ae (ax Z)| 4,_,ai,_=>rw[show gz d ks=hn ks by simp[gz,ai]];exact ajC (d:=d) (c:=c) ae aC| 5,_,ai,_=>rw[show gz d ks=pM ks by simp[gz,ai]];exact ajA (d:=d) (c:=c) ae aC| 6,_,ai,ax=>rw[show gz d ks=x9 d (ks.headD cg) by simp[gz,ai]];exact ajz (d:=d) (c:=c) ae (ax Z)| 7,_,ai,ax=>rw[show gz d ks=⟨(ks.headD cg).jI,false,(ks.headD cg).f⟩ by simp[gz,ai]];exact ajw (d:=d) (c:=c) ae (ax Z)| 8,_,ai,ax=>rw[show gz d ks=⟨(ks.headD cg).f,false,(ks.headD cg).jI⟩ by simp[gz,ai]];exact ajx (d:=d) (c:=c) ae (ax Z)| 9,_,ai,ax=>rw[show gz d ks=ks.headD cg by simp[gz,ai]];exact Xw (d:=d) (c:=c) ae (ax Z)
def fM(b:Nat)(l:List aX):aA:=⟨b,.cells (l.flatMap aX.cells).toArray 333 (0,0)⟩
def B2(l:List aX):(l.flatMap aX.cells).length=l.length*3:=hc _ 3 aX.cL l
def D7{b:Nat}{l:List aX}(bc:fM b l∈M){j:Nat}(ah:j<l.length):c6 I M ((⟨b,0,none⟩:Addr).add (j*3)) 3 l[j].cells:=by have h:=dm (I:=I) (cs:=l.flatMap aX.cells) (k:=j*3) (n:=3) bc (by rw[B2];omega);rwa [Bw aX.cells 3 aX.cL l j ah]at h
def PO(l:List aX)(j:Nat)(ah:j<l.length)(x:aX):cd (l.flatMap aX.cells) (j*3) x.cells=(l.set j x).flatMap aX.cells:=by
 have e:l.flatMap aX.cells=(l.take j).flatMap aX.cells++(l[j].cells++(l.drop (j+1)).flatMap aX.cells):=by
  have aa:l=l.take j++(l[j]::l.drop (j+1)):=by rw[<-e2 ah,px]
  have ad:=congrArg (λq:List aX=>q.flatMap aX.cells) aa;simp only[fS,iA]at ad;exact ad
 have az:((l.take j).flatMap aX.cells).length=j*3:=by rw[B2,fT];congr 1;omega
 unfold cd;rw[Gy,b2 ah,fS,iA,e,dW];congr 1
 ·rw[<-az,uG]
 ·congr 1;rw[aX.cL,<-az,<-dW,GB (by rw[cn,aX.cL])]
def XC(l:List aX)(x:aX):(l++[x]).flatMap aX.cells=l.flatMap aX.cells++x.cells:=by simp
def aT.zero(h:os.ok size xs):aT.ok ⟨os.a,0,os.c,os.aS⟩ size []:=by refine⟨am,λa7=>⟨rfl,(h.nil a7).2⟩,λg aw=>?_⟩;obtain⟨aa,ad,aj,aJ⟩:=h.cap g aw;exact⟨aa,dQ _,aj,am⟩
def aT.XD{l:List aX}(h:os.ok 3 (l.flatMap aX.cells))(bc:∀ x∈os.ar e,x∈M):lT I M (os.a.map λg=>⟨g,0,none⟩) os.n l:=by
 have az:=h.len;rw[B2]at az;refine⟨Z,λj ah=>?_⟩;obtain⟨a,n,c,aS⟩:=os;simp only at az;cases a with
 |none=>have:=(h.nil rfl).1;simp only at this;omega
 |some g=>
  obtain⟨aa,ad,aj,aJ⟩:=h.cap g rfl;simp only at aa ad aJ;refine⟨⟨g,0,none⟩,rfl,?_⟩;have hm:(⟨g,.cells aS.toArray e (0,0)⟩:aA)∈M:=bc _ gc;have af:=dm (I:=I) (cs:=aS) (k:=j*3) (n:=3) hm Z;have aK:(aS.drop (j*3)).take 3=((aS.take (n*3)).drop (j*3)).take 3:=by rw[Dy,zh];congr 1;omega
  rw[aK,aJ,Bw aX.cells 3 aX.cL l j ah]at af;exact af
def sK(pl:List (ByteArray×Int))(bp a5:List aX)(d:al):List aX:=
 d.ap.map (λk=>a5.getD k.toNat cg)++bif decide (d.k=3)then [bp.getD ((eP d.t pl).getD 0).toNat cg]else []
def ey(pl:List (ByteArray×Int))(bp:List aX):List al->List aX->List aX
 |[],a5=>a5| d::ds,a5=>ey pl bp ds (a5++[gz d (sK pl bp a5 d)])
def Hi(pl:List (ByteArray×Int))(bp:List aX):∀ (ds:List al) (a5:List aX),(ey pl bp ds a5).length=a5.length+ds.length
 |[],a5=>rfl| d::ds,a5=>by rw[ey,Hi];simp;omega
def XE(pl:List (ByteArray×Int))(n:Nat)(ns:List al):Prop:=∀ d∈ns,d.k=3->∃ i:Nat,eP d.t pl=some (i:Int)/\i<n
def PP{d:al}{n:Int}(h:fits d n=true):d.k<10:=by apply Int.lt_of_not_ge;intro cV;have:(10:Int)<=d.k:=cV;simp[fits,this]at h
def XF{d:al}{n:Int}(ax:0<=d.k)(h:fits d n=true)(ae:6<=d.k):0<n:=by
 have qs:=PP h;have D8:d.k=6\/d.k=7\/d.k=8\/d.k=9:=by omega
 rcases D8 with e | e | e | e<;>(simp[fits,e,oE,nw,jq]at h;omega)
def ajH(a5:List aX)(n i:Nat)(az:a5.length=i)(hi:i<n)(x:aX):(a5++List.replicate (n-i) cg).set i x=(a5++[x])++List.replicate (n-(i+1)) cg:=by subst az;rw[BH _ _ (cc _),mh,show n-a5.length=(n-(a5.length+1))+1 by omega,O9,BJ];simp
def XG:∀ n:Nat,rowOf cg.cells (n*3)=(List.replicate n cg).flatMap aX.cells:=λn=>by
 apply oA
 ·rw[B2,zd];simp[s',madeCells]
 intro i aa ad;have aj:∀ x∈(List.replicate n cg).flatMap aX.cells,x=Value.bool false:=λx ab=>by obtain⟨y,aG,ab⟩:=hl.1 ab;have:=O7 aG;subst this;simpa[aX.cells,cg]using ab
 rw[aj _ (bK ad)];have bg:∀ j,j<3->cg.cells[j]! = Value.bool false:=λj ah=>by
  match j,ah with
  |0,_=>rfl| 1,_=>rfl| 2,_=>rfl
 simp only[rowOf,gh,wy];exact bg _ (Nat.mod_lt _ bv)
def wE{a5:List aX}{n:Nat}(mI:a5.length=i)(a1:i<n)(x:aX):Nat.ble (0+i*3+x.cells.length) ((a5++List.replicate (n-i) cg).flatMap aX.cells).length=true:=by rw[mT,B2,aX.cL,cn,zd];omega
def XH{M0:List aA}(au:t.ok I)(af:right t=true){hx:Nat}{pl:List (ByteArray×Int)}(hm:I hx=some (jt pl)){zN:Option Addr}{ln lc:Nat}{bp:List aX}(mY:lT I M0 zN ln bp)(ao:XE pl ln t.ns) :
  Spec Tryz.prog 322 [.map (some hx),.slice zN ln lc,t.val] I M0 λv I' M'=>I'=I/\∃ b,v=.slice (some ⟨b,0,none⟩) t.n t.n/\M'=fM b (ey pl bp t.ns [])::M0:=by
 refine bU [] a0 Tryz.func322 rfl rfl rfl ?_;intro B ax;have g7:=au.n;have hk:=au.bb.cap;refine a8.mk [] M0 _ (.refl _) ajG ?_;rintro v I1 M1 -⟨rfl,rfl,rfl⟩;refine pi.mk t.n t.n rfl rfl (cc _) (by show 3*t.n<=_;omega) Z ?_;refine bQ.mk λdL sL ajI=>?_;refine du.inv (ι:=Nat×List aX×aT) (λx=>{ bp:=[(0,.val (.map (some hx))),(1,.val (.slice zN ln lc)),(5,.ref 5 0),(7,.ref 7 0),(8,.val (.slice (some ⟨dL,0,none⟩) t.n t.n)),(9,.val x.2.2.val),(20,.val (.slice t.a t.n t.c)),(21,.val (.int .i64 t.n)),(22,.val (.int .i64 x.1))],cl:=[(5,t.cells),(7,PN)],cO:=I1,c5:=fM dL (x.2.1++List.replicate (t.n-x.1) cg)::(x.2.2.ar 333++M0) }) (λx=>x.1<=t.n/\x.2.1.length=x.1/\ey pl bp t.ns []=ey pl bp (t.ns.drop x.1) x.2.1/\∃ ks,x.2.2.ok 3 ks) (λx=>t.n-x.1) ?_ ?_
 ·refine⟨(0,[],hL),⟨dQ _,rfl,rfl,[],kL 3⟩,?_,mG,.cons rfl (.cons rfl .nil)⟩;have e:rowOf cg.cells (t.n*3)=(List.replicate t.n cg).flatMap aX.cells:=XG t.n;simp only[fM,hI,DT];rw[<-e];exact .refl
 rintro⟨i,a5,dY⟩⟨hi,mI,D9,aw0,jb⟩;simp only at hi mI D9 jb;refine aZ.mk (λh=>?_) (λh=>?_)
 rotate_left
 ·have cV:i=t.n:=by have:¬ (i:Int)<(t.n:Int):=dU h;omega
  subst cV;rw[mc Z,ey]at D9;refine⟨I1,fM dL (a5++List.replicate (t.n-t.n) cg)::M0,.sub (.cons_cons _ (mL _ _)) .refl,rfl,dL,rfl,?_⟩;rw[D9,mh,List.replicate_zero,dK]
 have a1:i<t.n:=by have:(i:Int)<(t.n:Int):=cT h;omega
 have cI:i<t.ns.length:=by omega
 obtain⟨aR,bI,bo⟩:=au.bb.row al.cL a1 cI;have g6:=bK cI;have ai:=au.ns _ g6;have fh:=ai.aF;have pN:=ai.bb.cap;have hJ:=lb af i cI;have tH:=DG af cI;have XI:=ao _ g6;have XJ:ey pl bp t.ns []=ey pl bp (t.ns.drop (i+1)) (a5++[gz t.ns[i] (sK pl bp a5 t.ns[i])]):=by rw[D9,e2 cI,ey]
 generalize t.ns[i]=d at bo ai fh pN hJ tH XI XJ;have la:=ai.k.1;have aw1:=PP tH;have mZ:∀ {M:List aA} {q:Int},fM dL (a5++List.replicate (t.n-i) cg)∈M->q∈d.ap->c6 I1 M ((⟨dL,0,none⟩:Addr).add (q.toNat*3)) 3 (a5.getD q.toNat cg).cells:=fun {M q} bc aO=>by
  have wF:=hJ q aO;have iH:q.toNat<a5.length:=by omega
  have:=D7 (I:=I1) bc (j:=q.toNat) aza;rw[zy iH]at this;simpa[bT,iH]using this
 refine bt.mk aR i bI rfl a1 ?_;refine aU.mk _ (bo _) ?_;refine kY.mk 0 0 rfl rfl (cc _) (dQ _) ?_;refine du.inv (ι:=Nat×aT×List aX) (λx=>{ bp:=[(0,.val (.map (some hx))),(1,.val (.slice zN ln lc)),(5,.ref 5 0),(7,.ref 7 0),(8,.val (.slice (some ⟨dL,0,none⟩) t.n t.n)),(9,.val x.2.1.val),(10,.val (.int .i64 i)),(11,.ref 11 0),(20,.val (.slice t.a t.n t.c)),(21,.val (.int .i64 t.n)),(22,.val (.int .i64 i)),(30,.val (.slice d.ca d.aF d.cr)),(31,.val (.int .i64 d.aF)),(32,.val (.int .i64 x.1))],cl:=[(5,t.cells),(7,PN),(11,d.cells)],cO:=I1,c5:=fM dL (a5++List.replicate (t.n-i) cg)::(x.2.1.ar 333++M0) }) (λx=>x.1<=d.aF/\x.2.1.ok 3 (x.2.2.flatMap aX.cells)/\x.2.2=(d.ap.take x.1).map λk=>a5.getD k.toNat cg) (λx=>d.aF-x.1) ?_ ?_
 ·exact⟨(0,⟨dY.a,0,dY.c,dY.aS⟩,[]),⟨dQ _,aT.zero jb,rfl⟩,.refl,Gq,.cons rfl (.cons rfl (.cons rfl .nil))⟩
 rintro⟨k,cZ,ft⟩⟨ae,eU,c4⟩;simp only at ae eU c4;have aw2:cZ.n=ft.length:=by have:=eU.len;rw[B2]at this;omega
 have D':ft.length<=k:=by rw[c4,bB];exact Dw _ _
 refine aZ.mk (λh=>?_) (λh=>?_)
 ·have e5:k<d.aF:=by have:(k:Int)<(d.aF:Int):=cT h;omega
  have iR:k<d.ap.length:=by omega
  obtain⟨gn,fk,fc⟩:=ai.bb.one e5 iR;have aO:=hJ _ (bK iR);refine bt.mk gn k fk rfl e5 ?_;refine aU.mk _ (fc _) ?_;refine bt.mk ⟨dL,0,none⟩ d.ap[k].toNat rfl Z Z ?_;refine aU.mk _ (mZ (.head _) (bK iR)) ?_;refine bQ.mk λb9 mU BR=>?_;refine bC.append a0 rfl am (e:=333) rfl rfl rfl cZ eU rfl (m:=1) rfl (b8:=(a5.getD d.ap[k].toNat cg).cells) bv (dm (b:=b9) (cs:=(a5.getD d.ap[k].toNat cg).cells) (k:=0) (n:=3) (T:=333) (.head _) (bJ rfl)) rfl (Mr:=⟨b9,.cells (a5.getD d.ap[k].toNat cg).cells.toArray 333 (0,0)⟩::fM dL (a5++List.replicate (t.n-i) cg)::M0) (by
   have:=xV [(⟨b9,.cells (a5.getD d.ap[k].toNat cg).cells.toArray 333 (0,0)⟩:aA),fM dL (a5++List.replicate (t.n-i) cg)] (cZ.ar 333) M0;exact this) rt (by show(cZ.n+1)*3<=_;omega) ?_
  intro bh fr B3 hy rB tI He;refine be.mk _ (c9 (i:=k) Z) ?_;refine⟨(k+1,⟨some bh,cZ.n+1,fr,B3⟩,ft++[a5.getD d.ap[k].toNat cg]),⟨⟨ce,?_,?_⟩,ce⟩,.sub (M1:=[(⟨bh,.cells B3.toArray 333 (0,0)⟩:aA),fM dL (a5++List.replicate (t.n-i) cg)]++M0) (.cons_cons _ (.cons _ (.refl _))) (.perm (List.Perm.swap _ _ _) .refl),Gq,.cons rfl (.cons rfl (.cons rfl .nil))⟩;·simp only;rw[XC];exact Xm eU (aX.cL _) hy rB tI He
  ·simp only;rw[gk iR,cR,<-c4];rfl
 have cV:d.aF<=k:=by have:¬ (k:Int)<(d.aF:Int):=dU h;omega
 rw[fD Z]at c4;have aw3:ft.length=d.ap.length:=by rw[c4,bB]
 have il:cZ.n+1<=140737488355328:=by omega
 clear h ae D';have g4:∀ x:aX,cd ((a5++List.replicate (t.n-i) cg).flatMap aX.cells) (0+i*3) x.cells=((a5++[x])++List.replicate (t.n-(i+1)) cg).flatMap aX.cells:=λx=>by rw[dn,PO _ _ d4,ajH a5 t.n i mI a1]
 have hinv:∀ (oM:aT) (wG:List Value),oM.ok 3 wG->((i+1<=t.n/\(a5++[gz d (sK pl bp a5 d)]).length=i+1/\ey pl bp t.ns []=ey pl bp (t.ns.drop (i+1)) (a5++[gz d (sK pl bp a5 d)])/\∃ ks,oM.ok 3 ks)/\t.n-(i+1)<t.n-i):=λoM wG ad=>
  ⟨⟨a1,by simp[mI],XJ,wG,ad⟩,Z⟩
 by_cases aj:d.k=3
 ·refine aZ.mk (λ_=>?_) (λh=>absurd h (by simp[aj]));obtain⟨q,Hj,zO⟩:=XI aj;have Hk:sK pl bp a5 d=ft++[bp.getD q cg]:=by rw[sK,<-c4,Hj,aj];rfl
  have iH:q<bp.length:=by rw[mY.n];exact zO
  obtain⟨jc,DX,eD⟩:=mY.rd q iH;have ajJ:bp.getD q cg=bp[q]:=by simp[bT,iH]
  refine bC.ajE a0 rfl am rfl rfl rfl rfl (λw=>G8 w) (l:=pl) (g:=hx) rfl rfl (.inl hm) ?_;rw[Hj];refine bt.mk jc q DX rfl zO ?_;refine aU.mk _ (eD.sub λx ab=>f9) ?_;refine bQ.mk λb9 mU BR=>?_;refine bC.append a0 rfl am (e:=333) rfl rfl rfl cZ eU rfl (m:=1) rfl (b8:=bp[q].cells) bv (dm (b:=b9) (cs:=bp[q].cells) (k:=0) (n:=3) (T:=333) (.head _) (bJ rfl)) rfl (Mr:=⟨b9,.cells bp[q].cells.toArray 333 (0,0)⟩::fM dL (a5++List.replicate (t.n-i) cg)::M0) (by
   have:=xV [(⟨b9,.cells bp[q].cells.toArray 333 (0,0)⟩:aA),fM dL (a5++List.replicate (t.n-i) cg)] (cZ.ar 333) M0;exact this) rt (by show(cZ.n+1)*3<=_;omega) ?_
  intro bh fr B3 hy rB tI He;have iX:=Xm (g:=bh) eU (aX.cL bp[q]) hy rB tI He;rw[<-XC,<-ajJ,<-Hk]at iX;have eH:=aT.XD (I:=I1) (M:=⟨bh,.cells B3.toArray 333 (0,0)⟩::⟨b9,.cells bp[q].cells.toArray 333 (0,0)⟩::fM dL (a5++List.replicate (t.n-i) cg)::M0) (e:=333) iX (λx ab=>by
   simp only[aT.ar,eL]at ab;subst ab;exact .head _)
  refine cY.draw a0 rfl rfl rfl ?_;obtain⟨dF,cf,s1,s2,cH,gV,lo,cz,tJ,tK,tL,tM⟩:=d;simp only at aj;subst aj;refine cw.mk 3 rfl bv ?_;refine ev.oy _ [] _ perm_nil (wD (d:=⟨3,cf,s1,s2,cH,gV,lo,cz,tJ,tK,tL,tM⟩) eH il 3 bv rfl (λ_=>Nat.succ_pos _)) (λv I' M' h x ab=>i4) ?_;rintro v ew dv -⟨rfl,rfl,rfl⟩;rw[dK];refine bt.mk ⟨dL,0,none⟩ i rfl rfl a1 ?_;refine b4.iE [(⟨bh,.cells B3.toArray 333 (0,0)⟩:aA),⟨b9,.cells bp[q].cells.toArray 333 (0,0)⟩] M0 ((a5++List.replicate (t.n-i) cg).flatMap aX.cells) _ rfl (wE mI a1 _) rfl _ (g4 _) ?_;refine be.mk _ (c9 (i:=i) Z) ?_;exact⟨(i+1,_,⟨some bh,cZ.n+1,fr,B3⟩),hinv _ _ iX,.sub (M1:=[(⟨bh,.cells B3.toArray 333 (0,0)⟩:aA),fM dL _]++M0) (.cons_cons _ (.cons _ (.refl _))) (.perm (List.Perm.swap _ _ _) .refl),mG,.cons rfl (.cons rfl .nil)⟩
 refine aZ.mk (λh=>absurd (cT h) aj) (λ_=>?_);have Hk:sK pl bp a5 d=ft:=by rw[sK,<-c4,e8 aj];simp
 rw[Hk]at hinv;have eH:=aT.XD (I:=I1) (M:=fM dL (a5++List.replicate (t.n-i) cg)::(cZ.ar 333++M0)) (e:=333) eU (λx ab=>f9);have lK:6<=d.k->0<cZ.n:=λcG=>by have:=XF la tH cG;omega
 have D8:d.k=0\/d.k=1\/d.k=2\/d.k=4\/d.k=5\/d.k=6\/d.k=7\/d.k=8\/d.k=9:=by omega
 obtain⟨dF,cf,s1,s2,cH,gV,lo,cz,tJ,tK,tL,tM⟩:=d;simp only at D8 lK aj;refine cY.draw a0 rfl rfl rfl ?_;rcases D8 with rfl | rfl | rfl | rfl | rfl | rfl | rfl | rfl | rfl
 ·refine cw.mk 0 rfl bv ?_;refine ev.oy _ [] _ perm_nil (wD (d:=⟨0,cf,s1,s2,cH,gV,lo,cz,tJ,tK,tL,tM⟩) eH (xW il) 0 bv rfl (λh=>Z)) (λv I' M' h x ab=>i4) ?_;rintro v ew dv -⟨rfl,rfl,rfl⟩;rw[dK];refine bt.mk ⟨dL,0,none⟩ i rfl rfl a1 ?_;refine b4.iE [] (cZ.ar 333++M0) ((a5++List.replicate (t.n-i) cg).flatMap aX.cells) _ rfl (wE mI a1 _) rfl _ (g4 _) ?_;refine be.mk _ (c9 (i:=i) Z) ?_;exact⟨(i+1,_,cZ),hinv _ _ eU,.refl,mG,.cons rfl (.cons rfl .nil)⟩
 ·refine cw.mk 1 rfl bv ?_;refine ev.oy _ [] _ perm_nil (wD (d:=⟨1,cf,s1,s2,cH,gV,lo,cz,tJ,tK,tL,tM⟩) eH (xW il) 1 bv rfl (λh=>Z)) (λv I' M' h x ab=>i4) ?_;rintro v ew dv -⟨rfl,rfl,rfl⟩;rw[dK];refine bt.mk ⟨dL,0,none⟩ i rfl rfl a1 ?_;refine b4.iE [] (cZ.ar 333++M0) ((a5++List.replicate (t.n-i) cg).flatMap aX.cells) _ rfl (wE mI a1 _) rfl _ (g4 _) ?_;refine be.mk _ (c9 (i:=i) Z) ?_;exact⟨(i+1,_,cZ),hinv _ _ eU,.refl,mG,.cons rfl (.cons rfl .nil)⟩
 ·refine cw.mk 2 rfl bv ?_;refine ev.oy _ [] _ perm_nil (wD (d:=⟨2,cf,s1,s2,cH,gV,lo,cz,tJ,tK,tL,tM⟩) eH (xW il) 2 bv rfl (λh=>Z)) (λv I' M' h x ab=>i4) ?_;rintro v ew dv -⟨rfl,rfl,rfl⟩;rw[dK];refine bt.mk ⟨dL,0,none⟩ i rfl rfl a1 ?_;refine b4.iE [] (cZ.ar 333++M0) ((a5++List.replicate (t.n-i) cg).flatMap aX.cells) _ rfl (wE mI a1 _) rfl _ (g4 _) ?_;refine be.mk _ (c9 (i:=i) Z) ?_;exact⟨(i+1,_,cZ),hinv _ _ eU,.refl,mG,.cons rfl (.cons rfl .nil)⟩
 ·refine cw.mk 4 rfl bv ?_;refine ev.oy _ [] _ perm_nil (wD (d:=⟨4,cf,s1,s2,cH,gV,lo,cz,tJ,tK,tL,tM⟩) eH (xW il) 4 bv rfl (λh=>Z)) (λv I' M' h x ab=>i4) ?_;rintro v ew dv -⟨rfl,rfl,rfl⟩;rw[dK];refine bt.mk ⟨dL,0,none⟩ i rfl rfl a1 ?_;refine b4.iE [] (cZ.ar 333++M0) ((a5++List.replicate (t.n-i) cg).flatMap aX.cells) _ rfl (wE mI a1 _) rfl _ (g4 _) ?_;refine be.mk _ (c9 (i:=i) Z) ?_;exact⟨(i+1,_,cZ),hinv _ _ eU,.refl,mG,.cons rfl (.cons rfl .nil)⟩
 ·refine cw.mk 5 rfl bv ?_;refine ev.oy _ [] _ perm_nil (wD (d:=⟨5,cf,s1,s2,cH,gV,lo,cz,tJ,tK,tL,tM⟩) eH (xW il) 5 bv rfl (λh=>Z)) (λv I' M' h x ab=>i4) ?_;rintro v ew dv -⟨rfl,rfl,rfl⟩;rw[dK];refine bt.mk ⟨dL,0,none⟩ i rfl rfl a1 ?_;refine b4.iE [] (cZ.ar 333++M0) ((a5++List.replicate (t.n-i) cg).flatMap aX.cells) _ rfl (wE mI a1 _) rfl _ (g4 _) ?_;refine be.mk _ (c9 (i:=i) Z) ?_;exact⟨(i+1,_,cZ),hinv _ _ eU,.refl,mG,.cons rfl (.cons rfl .nil)⟩
 ·refine cw.mk 6 rfl bv ?_;refine ev.oy _ [] _ perm_nil (wD (d:=⟨6,cf,s1,s2,cH,gV,lo,cz,tJ,tK,tL,tM⟩) eH (xW il) 6 bv rfl (λ_=>lK bv)) (λv I' M' h x ab=>i4) ?_;rintro v ew dv -⟨rfl,rfl,rfl⟩;rw[dK];refine bt.mk ⟨dL,0,none⟩ i rfl rfl a1 ?_;refine b4.iE [] (cZ.ar 333++M0) ((a5++List.replicate (t.n-i) cg).flatMap aX.cells) _ rfl (wE mI a1 _) rfl _ (g4 _) ?_;refine be.mk _ (c9 (i:=i) Z) ?_;exact⟨(i+1,_,cZ),hinv _ _ eU,.refl,mG,.cons rfl (.cons rfl .nil)⟩
 ·refine cw.mk 7 rfl bv ?_;refine ev.oy _ [] _ perm_nil (wD (d:=⟨7,cf,s1,s2,cH,gV,lo,cz,tJ,tK,tL,tM⟩) eH (xW il) 7 bv rfl (λ_=>lK bv)) (λv I' M' h x ab=>i4) ?_;rintro v ew dv -⟨rfl,rfl,rfl⟩;rw[dK];refine bt.mk ⟨dL,0,none⟩ i rfl rfl a1 ?_;refine b4.iE [] (cZ.ar 333++M0) ((a5++List.replicate (t.n-i) cg).flatMap aX.cells) _ rfl (wE mI a1 _) rfl _ (g4 _) ?_;refine be.mk _ (c9 (i:=i) Z) ?_;exact⟨(i+1,_,cZ),hinv _ _ eU,.refl,mG,.cons rfl (.cons rfl .nil)⟩
 ·refine cw.mk 8 rfl bv ?_;refine ev.oy _ [] _ perm_nil (wD (d:=⟨8,cf,s1,s2,cH,gV,lo,cz,tJ,tK,tL,tM⟩) eH (xW il) 8 bv rfl (λ_=>lK bv)) (λv I' M' h x ab=>i4) ?_;rintro v ew dv -⟨rfl,rfl,rfl⟩;rw[dK];refine bt.mk ⟨dL,0,none⟩ i rfl rfl a1 ?_;refine b4.iE [] (cZ.ar 333++M0) ((a5++List.replicate (t.n-i) cg).flatMap aX.cells) _ rfl (wE mI a1 _) rfl _ (g4 _) ?_;refine be.mk _ (c9 (i:=i) Z) ?_;exact⟨(i+1,_,cZ),hinv _ _ eU,.refl,mG,.cons rfl (.cons rfl .nil)⟩
 ·refine cw.mk 9 rfl bv ?_;refine ev.oy _ [] _ perm_nil (wD (d:=⟨9,cf,s1,s2,cH,gV,lo,cz,tJ,tK,tL,tM⟩) eH (xW il) 9 bv rfl (λ_=>lK bv)) (λv I' M' h x ab=>i4) ?_;rintro v ew dv -⟨rfl,rfl,rfl⟩;rw[dK];refine bt.mk ⟨dL,0,none⟩ i rfl rfl a1 ?_;refine b4.iE [] (cZ.ar 333++M0) ((a5++List.replicate (t.n-i) cg).flatMap aX.cells) _ rfl (wE mI a1 _) rfl _ (g4 _) ?_;refine be.mk _ (c9 (i:=i) Z) ?_;exact⟨(i+1,_,cZ),hinv _ _ eU,.refl,mG,.cons rfl (.cons rfl .nil)⟩
end Go.V
