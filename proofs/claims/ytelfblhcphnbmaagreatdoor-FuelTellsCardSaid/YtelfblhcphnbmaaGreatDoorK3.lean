/- Part 3 of what the proofs of this seat share: the executor, data in memory, walks.
-/
import Derived.Test.YtelfblhcphnbmaaGreatDoorK2
import Derived.WideMake
import Derived.ChangeSame
import Derived.ChangeArms
import Derived.OpenShut
import Derived.Deep.DeepHandedRow
import Derived.Lib.LaidTab
import Derived.Test.YtelfblhcphnbmaaGreatDoorRows
import Derived.Test.YtelfblhcphnbmaaGreatDoorCards
import Derived.Test.YtelfblhcphnbmaaGreatDoorTie
import Derived.WalkKit
import Derived.ProofKit
import Derived.WideKeyArgs
import Derived.Below
import Derived.JoinedOf
set_option linter.all false
set_option maxHeartbeats 40000000
namespace Go.V
open Go Go.Proofs
def b':=@of_decide_eq_false
def b8:=@decide_eq_false
def bj:=@Nat.zero_le
def fA:=@decide_eq_true
def qp:=@Option.some.inj
def oq:=@List.map_map
def yv:=@Bool.and_eq_false_iff
def yw:=@ByteArray.size_append
def yx:=@List.getElem_of_mem
def uZ:=@List.cons.injEq
def Dd:=@MapKept.run_getObj_map
def De:=@MapKept.run_checkKey
def yy:=@List.sum_append
def Df:=@MapKept.run_findKey
def AF:=@decide_eq_decide
def GF:=@Int.ofNat_eq_natCast
def GG:=@List.mem_of_mem_take
def Dg:=@List.not_mem_nil
def yz:=@Nat.mul_comm
def GH:=@Bool.not_eq_false'
def Dh:=@List.all_append
def KE:=@MapKept.run_setObj_map
def GI:=@DataW.trod_string
def GJ:=@List.flatMap_nil
def KF:=@List.all_eq_false
def KG:=@List.flatten_cons
def KH:=@DataW.trod_array
def KI:=@List.drop_length
variable{d:aP}{P deb:List Int}{t:bJ}{x y:Operand}{a:Option Addr}{other:Prop}{I I':aN}{i c sz size de base:Nat}{g:b3}{w:Bool}{F:Fr}{C:c7}{M:List aC}{vs cs:List Value}{α:Type}{X:cx}{c9 Di:dH}{l:List (ByteArray×Int)}{v:Value}{m:List Bool}{L:List (List Int)}{W jo:World}{bT:Array Field}{rows:List (List Value)}{p:List MemPlace}
structure GK(d:aP):Prop where
 k:d.k<10
 t:d.t.size<=255
 l3:d.k=6->0<=d.lo/\d.lo<=99/\(d.hi=-1\/(d.lo<=d.hi/\d.hi<=99))
def yA{n:Int}(h:fits d n=true):GK d:=by
 unfold fits at h;cases U:decide (10<=d.k)with
 |true=>rw[U]at h;cases h
 |false=>
  rw[U]at h;simp only[a5]at h;have ae:d.k<10:=by simpa using U
  cases aa:(decide (n<qd d.k.toNat)||(decide (0<=mH d.k.toNat)&&decide (mH d.k.toNat<n)))with
  |true=>rw[aa]at h;cases h
  |false=>
   rw[aa]at h;simp only[a5]at h;have b7:d.t=⟨#[]⟩->d.t.size<=255:=λe=>by rw[e];decide
   cases ag:decide (d.k=1)with
   |true=>rw[ag]at h;simp only[ba,bL,ft]at h;exact⟨ae,b7 h.1,λe=>by simp at ag;omega⟩
   |false=>
    rw[ag]at h;simp only[a5]at h;cases aK:decide (d.k=2)with
    |true=>rw[aK]at h;simp only[ba,bL,n4,lq,mB]at h;exact⟨ae,by omega,λe=>by simp at aK;omega⟩
    |false=>
     rw[aK]at h;simp only[a5]at h;cases bg:(decide (d.k=3)||decide (d.k=9))with
     |true=>rw[bg]at h;simp only[ba,bL]at h;refine⟨ae,?_,λe=>by simp at bg;omega⟩;have:=h.1;unfold gI at this;simp only[bL,ft]at this;omega
     |false=>
      rw[bg]at h;simp only[a5]at h;cases bD:decide (d.k=6)with
      |true=>
       rw[bD]at h;simp only[ba,bL,ft,n4,lq,mB,yv]at h;refine⟨ae,b7 h.2.2,λ_=>?_⟩;obtain⟨⟨aR,aV,bl⟩,_⟩:=h;refine⟨by omega,by omega,?_⟩;rcases bl with bl | bl
       ·left
        simpa using bl
       ·right
        omega
      |false=>rw[bD]at h;simp only[a5,bL,ft]at h;exact⟨ae,b7 h.2.1,λe=>by simp at bD;omega⟩
def Dj:List Value:=[.int .i64 0,.int .i64 1,.string ⟨#[63]⟩,.int .i64 0,.int .i64 (-1),.string ⟨#[42]⟩,.int .i64 1,.int .i64 (-1),.string ⟨#[43]⟩]
def KJ(I:aN):Prop:=∃ T aj,I 3=some (.cells Dj.toArray T aj)
def r3(lo:Nat)(hi:Int):List UInt8:=
 bif decide (hi=lo)then [123]++g7 lo++[125]else
 bif decide (hi=-1)then [123]++g7 lo++[44,125]else [123]++g7 lo++[44]++g7 hi.toNat++[125]
def j2(lo:Nat)(hi:Int):List UInt8:=
 bif decide ((0:Int)=lo)&&decide (1=hi)then [63]else
 bif decide ((0:Int)=lo)&&decide (-1=hi)then [42]else
 bif decide ((1:Int)=lo)&&decide (-1=hi)then [43]else r3 lo hi
def ZU(lo:Nat)(hi:Int):(r3 lo hi).length<=7:=by
 have U:=wH lo;have aa:=wH hi.toNat;unfold r3;cases decide (hi=lo)<;>cases decide (hi=-1)<;>simp<;>omega
def Q6(lo:Nat)(hi:Int):(j2 lo hi).length<=7:=by
 have U:=ZU lo hi;unfold j2;cases(decide ((0:Int)=lo)&&decide (1=hi))<;>cases(decide ((0:Int)=lo)&&decide (-1=hi))<;>cases(decide ((1:Int)=lo)&&decide (-1=hi))<;>simp<;>omega
def Q7(n:Nat):(r0 n).size<=2:=wH n
def ot(lo hi:Int):aP:=⟨6,0,0,0,0,⟨#[]⟩,lo,hi,none,0,0,[]⟩
def ZV{lo:Nat}{hi:Int}(dX:lo<=99)(eX:hi=-1\/((lo:Int)<=hi/\hi<=99)):fits (ot lo hi) 1=true:=by
 have ax:qd 6=1:=by decide
 have az:mH 6=1:=by decide
 rcases eX with rfl | ⟨U,aa⟩
 ·simp[fits,ot,ax,az,aP.nw];exact⟨b8 (by omega),b8 (by omega)⟩
 ·simp[fits,ot,ax,az,aP.nw];exact⟨b8 (by omega),b8 (by omega),.inr ⟨b8 (by omega),b8 (by omega)⟩⟩
def Q8(a b:List UInt8):strOf a++strOf b=strOf (a++b):=by apply wG;simp[strOf]
def cu.ek{P:Program}{t:Nat}{a b:List UInt8}(ao:a.length+b.length<=9223372036854775807){V:Value->Prop}(h:V (.string (strOf (a++b)))):cu P .add t x y (.val (.string (strOf a))) (.val (.string (strOf b))) V other:=
 cu.concat (a:=strOf a) (b:=strOf b) ao (by rw[Q8];exact h)
def ZW(aA:pj I)(aO:KJ I)(lo:Nat)(hi:Int)(dX:lo<=99)(eX:hi=-1\/((lo:Int)<=hi/\hi<=99)):Spec Tryz.prog 230 [.int .i64 lo,.int .i64 hi] I []
  λr I' M'=>r=.string (strOf (j2 lo hi))/\I'=I/\M'=[]:=by
 refine bC [] aS Tryz.func230 rfl rfl rfl ?_;intro B aq;have bb:(ot lo hi).ok I:=⟨by simp[ot],by simp[ot,eF],by simp[ot,eF],by simp[ot,eF],by simp[ot,eF],by show(0:Nat)<=_;omega,⟨by simp only[ot];omega,by simp only[ot];omega⟩,⟨by simp only[ot];omega,by simp only[ot];omega⟩,⟨rfl,⟨b6 _,by simp[ot]⟩,.inl rfl⟩,by simp[ot]⟩;refine aT.mk [] [] _ (.refl _) (Qy aA bb 1) ?_;rintro v I' M' -⟨rfl,rfl,rfl⟩;rw[ZV dX eX];refine aI.mk (λh=>by cases h) (λ_=>?_);have bh:bE I' ([]++[]) ⟨3,0,none⟩ 9 Dj:=by obtain⟨T,aj,aO⟩:=aO;exact⟨rfl,_,T,aj,.inl aO,rfl,rfl⟩
 refine aJ.mk _ bh ?_;refine cD.inv (ι:=Nat) (λi=>{ bA:=[(0,.val (.int .i64 lo)),(1,.val (.int .i64 hi)),(12,.val (.agg Dj.toArray)),(13,.val (.int .i64 i))],cj:=I' }) (λi=>i<=3/\(1<=i->(decide ((0:Int)=lo)&&decide (1=hi))=false)/\(2<=i->(decide ((0:Int)=lo)&&decide (-1=hi))=false)/\(3<=i->(decide ((1:Int)=lo)&&decide (-1=hi))=false)) (λi=>3-i) ?_ ?_
 ·exact⟨0,⟨by simp,by simp,by simp,by simp⟩,.refl,dr,.nil⟩
 ·rintro i⟨gH,c3,m2,ZX⟩
  match i,gH with
  |0,_=>
   refine aI.mk (λ_=>?_) (λh=>by simp at h);refine dT.mk 0 rfl (by decide) ?_;have next:(decide ((0:Int)=lo)&&decide (1=hi))=false->(((0+1:Nat)<=3/\(1<=(0+1:Nat)->(decide ((0:Int)=lo)&&decide (1=hi))=false)/\(2<=(0+1:Nat)->(decide ((0:Int)=lo)&&decide (-1=hi))=false)/\(3<=(0+1:Nat)->(decide ((1:Int)=lo)&&decide (-1=hi))=false))/\3-(0+1)<3-0):=λh=>by
    refine⟨⟨by simp,λ_=>?_,λbI=>?_,λbI=>?_⟩,by simp⟩;·exact h
    ·simp at bI
    ·simp at bI
   refine bo.mk (λaR=>?_) (λaR=>?_)
   ·refine aI.mk (λaV=>?_) (λaV=>?_)
    ·refine⟨_,_,.refl,?_,rfl,rfl⟩;have:j2 lo hi=[63]:=by unfold j2;rw[aR,aV];rfl
     rw[this];rfl
    ·refine aQ.mk 1 (by decide) ?_;exact⟨1,next (by rw[aR,aV];rfl),.refl,dr,.nil⟩
   ·refine aQ.mk 1 (by decide) ?_;exact⟨1,next (by rw[aR];rfl),.refl,dr,.nil⟩
  |1,_=>
   refine aI.mk (λ_=>?_) (λh=>by simp at h);refine dT.mk 1 rfl (by decide) ?_;have next:(decide ((0:Int)=lo)&&decide (-1=hi))=false->(((1+1:Nat)<=3/\(1<=(1+1:Nat)->(decide ((0:Int)=lo)&&decide (1=hi))=false)/\(2<=(1+1:Nat)->(decide ((0:Int)=lo)&&decide (-1=hi))=false)/\(3<=(1+1:Nat)->(decide ((1:Int)=lo)&&decide (-1=hi))=false))/\3-(1+1)<3-1):=λh=>by
    refine⟨⟨by simp,λ_=>?_,λbI=>?_,λbI=>?_⟩,by simp⟩;·exact c3 (by decide)
    ·exact h
    ·simp at bI
   refine bo.mk (λaR=>?_) (λaR=>?_)
   ·refine aI.mk (λaV=>?_) (λaV=>?_)
    ·refine⟨_,_,.refl,?_,rfl,rfl⟩;have:j2 lo hi=[42]:=by unfold j2;rw[c3 (by decide),aR,aV];rfl
     rw[this];rfl
    ·refine aQ.mk 2 (by decide) ?_;exact⟨2,next (by rw[aR,aV];rfl),.refl,dr,.nil⟩
   ·refine aQ.mk 2 (by decide) ?_;exact⟨2,next (by rw[aR];rfl),.refl,dr,.nil⟩
  |2,_=>
   refine aI.mk (λ_=>?_) (λh=>by simp at h);refine dT.mk 2 rfl (by decide) ?_;have next:(decide ((1:Int)=lo)&&decide (-1=hi))=false->(((2+1:Nat)<=3/\(1<=(2+1:Nat)->(decide ((0:Int)=lo)&&decide (1=hi))=false)/\(2<=(2+1:Nat)->(decide ((0:Int)=lo)&&decide (-1=hi))=false)/\(3<=(2+1:Nat)->(decide ((1:Int)=lo)&&decide (-1=hi))=false))/\3-(2+1)<3-2):=λh=>by
    refine⟨⟨by simp,λ_=>?_,λbI=>?_,λbI=>?_⟩,by simp⟩;·exact c3 (by decide)
    ·exact m2 (by decide)
    ·exact h
   refine bo.mk (λaR=>?_) (λaR=>?_)
   ·refine aI.mk (λaV=>?_) (λaV=>?_)
    ·refine⟨_,_,.refl,?_,rfl,rfl⟩;have:j2 lo hi=[43]:=by unfold j2;rw[c3 (by decide),m2 (by decide),aR,aV];rfl
     rw[this];rfl
    ·refine aQ.mk 3 (by decide) ?_;exact⟨3,next (by rw[aR,aV];rfl),.refl,dr,.nil⟩
   ·refine aQ.mk 3 (by decide) ?_;exact⟨3,next (by rw[aR];rfl),.refl,dr,.nil⟩
  |3,_=>
   refine aI.mk (λh=>by simp at h) (λ_=>?_);have ax:=c3 (by decide);have az:=m2 (by decide);have bc:=ZX (by decide);have hR:j2 lo hi=r3 lo hi:=by unfold j2;rw[ax,az,bc];rfl
   rw[hR];have tr:=Q7 lo;have JI:=Q7 hi.toNat;have tr:=wH lo;refine aI.mk (λh=>?_) (λh=>?_);·refine aT.mk [] [] _ (.refl _) (GB lo (by omega)) ?_;rintro v I' M' -⟨rfl,rfl,rfl⟩;refine cu.ek (a:=[123]) (b:=g7 lo) (by simp;omega) ?_;refine cu.ek (a:=[123]++g7 lo) (b:=[125]) (by simp;omega) ?_;refine⟨_,_,.refl,?_,rfl,rfl⟩;rw[r3,h];rfl
   ·refine aI.mk (λk=>?_) (λk=>?_)
    ·refine aT.mk [] [] _ (.refl _) (GB lo (by omega)) ?_;rintro v I' M' -⟨rfl,rfl,rfl⟩;refine cu.ek (a:=[123]) (b:=g7 lo) (by simp;omega) ?_;refine cu.ek (a:=[123]++g7 lo) (b:=[44,125]) (by simp;omega) ?_;refine⟨_,_,.refl,?_,rfl,rfl⟩;rw[r3,h,k];rfl
    ·refine aT.mk [] [] _ (.refl _) (GB lo (by omega)) ?_;rintro v I' M' -⟨rfl,rfl,rfl⟩;have ae:hi≠-1:=by simpa using k
     obtain⟨av,rfl⟩:=jf (show 0<=hi by omega);have JI:=wH av;refine cu.ek (a:=[123]) (b:=g7 lo) (by simp;omega) ?_;refine cu.ek (a:=[123]++g7 lo) (b:=[44]) (by simp;omega) ?_;refine aT.mk [] [] _ (.refl _) (GB av (by omega)) ?_;rintro v I' M' -⟨rfl,rfl,rfl⟩;refine cu.ek (a:=[123]++g7 lo++[44]) (b:=g7 av) (by simp;omega) ?_;refine cu.ek (a:=[123]++g7 lo++[44]++g7 av) (b:=[125]) (by simp;omega) ?_;refine⟨_,_,.refl,?_,rfl,rfl⟩;rw[r3,h,k];rfl
def r4:List (List UInt8):=[[],[],[],[],[],[],[],[],[],[],[],[],[],[32],[],[],[32,47,32],[],[],[],[],[38],[],[],[33],[],[],[60],[],[62]]
def hf(j:Nat):List UInt8:=r4.getD j []
def Dk(I:aN):Prop:=∃ T aj,I 1=some (.cells (r4.map λl=>Value.string (strOf l)).toArray T aj)
def Dk.rd(h:Dk I)(M:List aC){j:Nat}(al:i+j<30):bE I M ((Addr.add ⟨1,0,none⟩ i).add j) 1 [.string (strOf (hf (i+j)))]:=by
 obtain⟨T,aj,h⟩:=h;rw[wK,d' _ rfl];refine⟨rfl,_,T,aj,.inl h,?_,rfl⟩;have U:i+j<(r4.map λl=>Value.string (strOf l)).length:=by simp[r4];omega
 have aa:i+j<r4.length:=by simp[r4];omega
 simp only[dK];rw[dS U,oe,p8];simp[hf,cQ,aa]
def Dl(j:Nat):(hf j).length<=3:=by
 by_cases h:j<30
 ·have:∀ j:Fin 30,(hf j.val).length<=3:=by decide
  exact this ⟨j,h⟩
 ·have:r4.length<=j:=by simp[r4];omega
  simp[hf,cQ,this]
def jq(deb:List Int)(d:aP):List UInt8:=
 bif decide (d.k=0)||decide (d.k=2)then tq d.t else
 bif decide (d.k=1)then rk deb d.eh d.s1 d.s2 d.fJ else
 bif decide (d.k=3)then d.t.data.toList else
 bif decide (d.k=9)then hf 27++d.t.data.toList++[58,32]else hf (d.k.toNat*3)
def iD(d:aP):List UInt8:=bif decide (d.k=6)then j2 d.lo.toNat d.hi else hf (d.k.toNat*3+2)
def KK(s:ByteArray):strOf s.data.toList=s:=wG (by simp[strOf])
def KL(aA:pj I)(aO:KJ I)(yB:Dk I)(ai:d.ok I)(aw:GK d):Spec Tryz.prog 210 [d.val] I [] λr I' M'=>r=.string (strOf (iD d))/\I'=I/\M'=[]:=by
 refine bC [] aS Tryz.func210 rfl rfl rfl ?_;intro B aq;refine aI.mk (λh=>?_) (λh=>?_)
 ·obtain⟨aR,aV,bl⟩:=aw.l3 (by simpa using h);have ax:d.lo=((d.lo.toNat:Nat):Int):=by omega
  have kq:=ZW aA aO d.lo.toNat d.hi (by omega) (by omega);rw[<-ax]at kq;refine aT.mk [] [] _ (.refl _) kq ?_;rintro v I' M' -⟨rfl,rfl,rfl⟩;refine⟨_,_,.refl,?_,rfl,rfl⟩;simp only[iD,h];rfl
 ·have ae:=ai.k;have ys:=aw.k;refine dT.mk d.k.toNat (by omega) (by omega) ?_;refine aJ.mk _ (yB.rd _ (by show d.k.toNat*3+2<30;omega)) ?_;refine⟨_,_,.refl,?_,rfl,rfl⟩;simp only[iD,h];rfl
def Q9(yr:qi I deb)(yB:Dk I)(ai:d.ok I)(aw:GK d):Spec Tryz.prog 208 [d.val] I []
  λr I' M'=>r=.string (strOf (jq deb d))/\(∀ b o,I b=some o->I' b=some o)/\M'=[]:=by
 refine bC [] aS Tryz.func208 rfl rfl rfl ?_;intro B aq;have ae:=ai.k;have ys:=aw.k;have au:=aw.t;have lit:(decide (d.k=0)||decide (d.k=2))=true->jq deb d=tq d.t:=λh=>by simp only[jq,h];rfl
 refine aI.mk (λU=>?_) (λU=>?_)
 ·refine aI.mk (λ_=>?_) (λh=>by rw[U]at h;cases h);refine aT.mk [] [] _ (.refl _) (Q2 d.t (by omega)) ?_;rintro v I' M' -⟨rfl,rfl,rfl⟩;refine⟨_,_,.refl,?_,λ_ _ h=>h,rfl⟩;rw[lit (by rw[U];rfl)]
 ·refine aI.mk (λaa=>?_) (λaa=>?_)
  ·refine aT.mk [] [] _ (.refl _) (Q2 d.t (by omega)) ?_;rintro v I' M' -⟨rfl,rfl,rfl⟩;refine⟨_,_,.refl,?_,λ_ _ h=>h,rfl⟩;rw[lit (by rw[aa];simp)]
  ·refine aI.mk (λag=>?_) (λag=>?_)
   ·refine aT.mk [] [] _ (.refl _) (ZT yr (a:=d.eh) (b:=d.s1) (c:=d.s2) (d:=d.fJ) (λx ab=>by
     simp only[dE,Dg,or_false]at ab;rcases ab with rfl | rfl | rfl | rfl;·exact ai.eh
     ·exact ai.s1
     ·exact ai.s2
     ·exact ai.fJ)) ?_
    rintro v I' M' -⟨rfl,a9,rfl⟩;refine⟨_,_,.refl,?_,a9,rfl⟩;simp only[jq,U,aa,ag];rfl
   ·refine aI.mk (λaK=>?_) (λaK=>?_)
    ·refine⟨_,_,.refl,?_,λ_ _ h=>h,rfl⟩;simp only[jq,U,aa,ag,aK];rw[<-KK d.t];rfl
    ·refine aI.mk (λbg=>?_) (λbg=>?_)
     ·have ZY:d.k=9:=by simpa using bg
      refine cL.draw aS rfl rfl rfl ?_;refine dT.mk 9 ZY (by decide) ?_;refine aJ.mk _ (yB.rd _ (by decide)) ?_;have fY:(strOf (hf 27)).size=1:=by decide
      refine cu.concat (a:=strOf (hf 27)) (b:=d.t) (by omega) ?_;refine cu.concat (a:=strOf (hf 27)++d.t) (b:=strOf [58,32]) (by rw[yw];show _+2<=_;omega) ?_;refine⟨_,_,.refl,?_,λ_ _ h=>h,rfl⟩;simp only[jq,U,aa,ag,aK,bg];refine congrArg Value.string (wG ?_);simp[strOf]
     ·refine dT.mk d.k.toNat (by omega) (by omega) ?_;refine aJ.mk _ (yB.rd _ (by show d.k.toNat*3+0<30;omega)) ?_;refine⟨_,_,.refl,?_,λ_ _ h=>h,rfl⟩;simp only[jq,U,aa,ag,aK,bg];rfl
def e7(ns:List aP)(k:Int):Int:=(ns.map (·.k)).getD k.toNat 0
def paren(w:Bool)(s:List UInt8):List UInt8:=(bif w then [40]else [])++(s++(bif w then [41]else []))
def mM(sep:List UInt8)(f:Int->List UInt8):Bool->List Int->List UInt8
 |_,[]=>[]| b,k::ks=>(bif b then sep else [])++(f k++mM sep f true ks)
def mN(d:aP):List UInt8:=hf (d.k.toNat*3+1)
def u0(deb:List Int)(ns:List aP)(d:aP)(g:Int->List UInt8):List UInt8:=
 jq deb d++(mM (mN d) (λk=>paren (fh d.k (e7 ns k)) (g k)) false d.kids++iD d)
def fu(deb:List Int)(ns:List aP):Int->List UInt8:=wC [] (u0 deb ns) ns
def hs(deb:List Int)(t:bJ):List UInt8:=bif right t then fu deb t.ns t.root else []
def Q'{sep:List UInt8}{f g:Int->List UInt8}:∀ {ks:List Int} {b:Bool},(∀ k∈ks,f k=g k)->mM sep f b ks=mM sep g b ks
 |[],b,_=>rfl| k::ks,b,h=>by unfold mM;rw[h k (by simp),Q' λx ab=>h x (by simp[ab])]
def Dm(an:right t=true){j:Nat}(al:j<t.ns.length):fu deb t.ns j=u0 deb t.ns t.ns[j] (fu deb t.ns):=by refine QF (λd g c2 h=>?_) an al;unfold u0;rw[Q' λk ae=>by rw[h k ae]]
def ZZ(w:Bool)(s:List UInt8):(paren w s).length<=s.length+2:=by cases w<;>simp[paren]
def Ra{sep:List UInt8}{f:Int->List UInt8}(ao:sep.length<=3){g:Int->Nat}(aw:∀ k,(f k).length+3<=g k):∀ {ks:List Int} {b:Bool},(mM sep f b ks).length<=mI g ks
 |[],b=>by simp[mM,mI]
 |k::ks,b=>by
  have U:=Ra ao aw (ks:=ks) (b:=true);have aa:=aw k;unfold mM;simp only[ck,mI,dA,oh]at U |-;cases b<;>simp<;>omega
def KM(deb:List Int)(aw:GK d):(jq deb d).length<=2400:=by
 have U:(tq d.t).length<=2+4*d.t.size:=by have:=yu (hF · mK) 4 (λc=>qh c mK) d.t.data.toList;have aa:d.t.data.toList.length=d.t.size:=rfl;simp only[tq,ck,c5,eY];omega
 have aa:=ZS deb d.eh d.s1 d.s2 d.fJ;have ag:=aw.t;have aK:=Dl 27;have bg:=Dl (d.k.toNat*3);have bD:d.t.data.toList.length=d.t.size:=rfl;unfold jq;cases(decide (d.k=0)||decide (d.k=2))<;>cases decide (d.k=1)<;>cases decide (d.k=3)<;>cases decide (d.k=9)<;>simp only[ba,a5,ck,c5,eY]<;>omega
def GL(d:aP):(iD d).length<=7:=by
 have U:=Q6 d.lo.toNat d.hi;have aa:=Dl (d.k.toNat*3+2);unfold iD;cases decide (d.k=6)<;>simp only[ba,a5]<;>omega
def KN{α:Type}(c:Nat):∀ l:List α,(l.map λ_=>c).sum=c*l.length
 |[]=>by simp
 |x::l=>by rw[dA,oh,KN c l,c5,CQ];omega
def Rb(an:right t=true):(fu deb t.ns t.root).length+5<=2412*t.ns.length:=by
 have h:=QM an (g:=λk=>(fu deb t.ns k).length+5) (c:=λ_=>2412) λj al=>by rw[Dm an al];have U:=KM deb (yA (Gu an al));have aa:=GL t.ns[j];have ag:=Ra (sep:=mN t.ns[j]) (Dl _) (f:=λk=>paren (fh t.ns[j].k (e7 t.ns k)) (fu deb t.ns k)) (g:=λk=>(fu deb t.ns k).length+5) (λk=>by have:=ZZ (fh t.ns[j].k (e7 t.ns k)) (fu deb t.ns k);omega) (ks:=t.ns[j].kids) (b:=false);unfold u0;simp only[ck];omega
 rw[KN]at h;exact h
def GM(deb:List Int)(t:bJ):(hs deb t).length<=2412*t.ns.length:=by
 unfold hs;cases an:right t with
 |false=>simp| true=>have:=Rb (deb:=deb) an;simp only[ba];omega
abbrev Open:=Nat×Nat×Bool
def lz(e:Open):List Value:=[.int .i64 e.1,.int .i64 e.2.1,.bool e.2.2]
def nodeAt(ns:List aP)(j:Nat):aP:=ns.getD j ⟨0,0,0,0,0,.empty,0,0,none,0,0,[]⟩
def KO(deb:List Int)(ns:List aP)(d:aP)(k:Int):List UInt8:=paren (fh d.k (e7 ns k)) (fu deb ns k)
def mO(deb:List Int)(ns:List aP)(e:Open):List UInt8:=bif decide ((e.2.1:Int)=0)then(bif e.2.2 then [40]else [])++jq deb (nodeAt ns e.1)else []
def r5(deb:List Int)(ns:List aP)(e:Open):List UInt8:=
 mO deb ns e++(mM (mN (nodeAt ns e.1)) (KO deb ns (nodeAt ns e.1)) (decide (0<(e.2.1:Int))) ((nodeAt ns e.1).kids.drop e.2.1)++(iD (nodeAt ns e.1)++(bif e.2.2 then [41]else [])))
def wL(ns:List aP):Int->Nat:=wC 0 (λd g=>2+mI g d.kids) ns
def l4(ns:List aP)(e:Open):Nat:=1+mI (wL ns) ((nodeAt ns e.1).kids.drop e.2.1)
def tt(ns:List aP)(aB:List Open):Nat:=(aB.map (l4 ns)).sum
def r6(deb:List Int)(ns:List aP)(aB:List Open):List UInt8:=aB.reverse.flatMap (r5 deb ns)
def yC(deb:List Int)(ns:List aP)(aB:List Open)(e:Open):r6 deb ns (aB++[e])=r5 deb ns e++r6 deb ns aB:=by simp[r6]
def qq(ns:List aP)(aB:List Open)(e:Open):tt ns (aB++[e])=tt ns aB+l4 ns e:=by simp[tt]
def Rc(ns:List aP):∀ aB:List Open,aB.length<=tt ns aB
 |[]=>by simp
 |e::aB=>by have:=Rc ns aB;simp only[tt,dA,oh,c5,l4]at this |-;omega
def r7{ns:List aP}{j:Nat}(h:j<ns.length):nodeAt ns j=ns[j]:=by simp[nodeAt,cQ,h]
def Z0{g c2:Int->Nat}{ks:List Int}(h:∀ k∈ks,g k=c2 k):mI g ks=mI c2 ks:=by unfold mI;rw[Ar h]
def Rd(an:right t=true){j:Nat}(al:j<t.ns.length):wL t.ns j=2+mI (wL t.ns) t.ns[j].kids:=
 QF (λd g c2 h=>by rw[Z0 h]) an al
def Z1(an:right t=true):wL t.ns t.root<=2*t.ns.length:=by
 have:=QM an (g:=wL t.ns) (c:=λ_=>2) λj al=>by rw[Rd an al];exact b6 _
 rwa [KN]at this
def Re(an:right t=true){j:Nat}(al:j<t.ns.length)(w:Bool):r5 deb t.ns (j,0,w)=paren w (fu deb t.ns j):=by rw[Dm an al];simp only[r5,mO,r7 al];cases w<;>simp[paren,u0,KO]<;>rfl
def Rf(an:right t=true){j:Nat}(al:j<t.ns.length)(w:Bool):l4 t.ns (j,0,w)+1=wL t.ns j:=by rw[Rd an al];simp[l4,r7 al];omega
def KP(an:right t=true){j:Nat}(al:j<t.ns.length)(hi:i<t.ns[j].kids.length) :
  r5 deb t.ns (j,i,w)=mO deb t.ns (j,i,w)++((bif decide (0<(i:Int))then mN t.ns[j]else [])++(r5 deb t.ns (t.ns[j].kids[i].toNat,0,fh t.ns[j].k (e7 t.ns t.ns[j].kids[i]))++r5 deb t.ns (j,i+1,w))):=by
 have ae:=qf an j al _ (cO hi);rw[Re an (by omega)];have ax:(((t.ns[j].kids[i].toNat:Nat):Int))=t.ns[j].kids[i]:=yb ae.1;rw[ax];have ai:=dS hi;simp only[r5,r7 al];rw[ai];have az:mO deb t.ns (j,i+1,w)=[]:=by have:decide (((i+1:Nat):Int)=0)=false:=b8 (by omega);simp only[mO,this,a5]
 have bc:decide (0<((i+1:Nat):Int))=true:=fA (by omega);rw[az,bc];simp only[mM,KO,fN,nj]
def KQ(an:right t=true){j:Nat}(al:j<t.ns.length){w':Bool}(hi:i<t.ns[j].kids.length):l4 t.ns (j,i+1,w)+l4 t.ns (t.ns[j].kids[i].toNat,0,w')+1=l4 t.ns (j,i,w):=by
 have ae:=qf an j al _ (cO hi);have U:=Rf an (j:=t.ns[j].kids[i].toNat) (by omega) w';have ax:(((t.ns[j].kids[i].toNat:Nat):Int))=t.ns[j].kids[i]:=yb ae.1;rw[ax]at U;have ai:=dS hi;have bc:l4 t.ns (j,i,w)=1+mI (wL t.ns) (t.ns[j].kids.drop i):=by simp[l4,r7 al]
 have ct:l4 t.ns (j,i+1,w)=1+mI (wL t.ns) (t.ns[j].kids.drop (i+1)):=by simp[l4,r7 al]
 rw[bc,ct,ai];simp only[mI,dA,oh];omega
def KR{j:Nat}(al:j<t.ns.length)(hi:t.ns[j].kids.length<=i):r5 deb t.ns (j,i,w)=mO deb t.ns (j,i,w)++(iD t.ns[j]++(bif w then [41]else [])):=by simp only[r5,r7 al,hc hi];rfl
def KS{d:Nat}{x:cW}(h:F d=x):fL F d x=F:=by
 funext t;unfold fL;cases e:Nat.beq t d with
 |false=>rfl| true=>have:=cC e;subst this;exact h.symm
def Z2{d:Nat}{x:Option (List Value)}(h:C d=x):hO C d x=C:=by
 funext t;unfold hO;cases e:Nat.beq t d with
 |false=>rfl| true=>have:=cC e;subst this;exact h.symm
def GN:Code->Code
 | .scope c=>c
 | .seq a b=>match GN a with
  | .skip=>GN b| c=>c
 |_=>.skip
def Rg(c:Code)(l:Nat):Code:=(findLabel c l).getD .skip
def cX.wK{b j:Nat}{K:List aC->Prop}(pre post:List aC)(cs:Array Value)(T:Nat)(a7:M=pre++⟨b,.cells cs T (0,0)⟩::post)(af:i+j+vs.length<=cs.size)(U:gS vs=true)
  (h:K (pre++⟨b,.cells (bw cs.toList (i+j) vs).toArray T (0,0)⟩::post)):cX M (((⟨b,0,none⟩:Addr).add i).add j) vs K:=by
 rw[Go.V.wK];refine cX.add pre post cs T a7 (by omega) U ?_;rw[dK];exact h
structure hG(I:aN)(deb:List Int):Prop where
 c:pj I
 p:KJ I
 s:Dk I
 d:qi I deb
def KT(a b c:α)(L:List α):(a::b::(L++[c])).Perm ([b,c]++(a::L)):=
 (List.Perm.swap b a _).trans (((((List.perm_append_singleton c L).cons a)).trans (List.Perm.swap c a L)).cons b)
def KU(pre:List Value)(a b c z:Value)(rest:List Value):bw (pre++([a,b,c]++rest)) (pre.length+1) [z]=pre++([a,z,c]++rest):=by have:=Q0 pre a b z (c::rest) _ rfl;exact this
def hG.mono(h:hG I deb)(a9:∀ b o,I b=some o->I' b=some o):hG I' deb:=by obtain⟨⟨KV,f1,U⟩,⟨yD,f2,aa⟩,⟨Z3,f3,ag⟩,⟨aK,bg,KW,f4,bD⟩⟩:=h;exact⟨⟨KV,f1,a9 _ _ U⟩,⟨yD,f2,a9 _ _ aa⟩,⟨Z3,f3,a9 _ _ ag⟩,⟨aK,bg,KW,f4,a9 _ _ bD⟩⟩
def nF(aB:List Open):List Value:=aB.flatMap lz
def Dn(aB:List Open):(nF aB).length=aB.length*3:=ji lz 3 (λ_=>rfl) aB
def yE(aB:List Open)(e:Open):nF (aB++[e])=nF aB++[.int .i64 e.1,.int .i64 e.2.1,.bool e.2.2]:=by simp[nF,lz]
abbrev Dp:=fp×bn×List Open×aN
def Rh(t:bJ)(g:Nat)(x:Dp):x6:={ bA:=[(1,.ref 1 0),(3,.val (ptr g)),(4,.val x.2.1.val)],cl:=[(1,t.cells)],cj:=x.2.2.2,dx:=x.2.1.aY 263++x.1.M g }
structure GO(dd:aN)(deb:List Int)(t:bJ)(x:Dp):Prop where
 le:∀ b o,dd b=some o->x.2.2.2 b=some o
 ok:x.1.ok
 os:x.2.1.ok 3 (nF x.2.2.1)
 ne:x.2.2.1≠[]
 ak2:∀ e∈x.2.2.1,e.1<t.ns.length
 ak3:x.1.bs++r6 deb t.ns x.2.2.1=fu deb t.ns t.root
 GP:tt t.ns x.2.2.1<=2*t.ns.length
set_option maxRecDepth 4000 in
def Ri{dd:aN}(br:hG dd deb)(au:t.ok dd)(an:right t=true)(av:t.n<=1024){g:Nat}{p:Nat->Nat×Dp->Prop}(x:Dp)(ab:GO dd deb t x)(aO:∀ y,GO dd deb t y->tt t.ns y.2.2.1<tt t.ns x.2.2.1->p 0 (g,y))(B:Nat)(aq:World)(G:Fr)(yF:c7) :
  V ⟨Tryz.prog,yk,[3],Tryz.f187.ntmps,B,aq,dd,[],none⟩ (Rg (GN (Tryz.f187.body.getD .skip)) 0) (fL (fL (fL G 4 (.val x.2.1.val)) 3 (.val (ptr g))) 1 (.ref 1 0)) (hO yF 1 (some t.cells)) x.2.2.2 (x.2.1.aY 263++x.1.M g)
   (J8 (λl=>q3 [] (λy=>Rh t y.1 y.2) (p l)) (s3 ⟨Tryz.prog,yk,[3],Tryz.f187.ntmps,B,aq,dd,[],none⟩ Tryz.f187.results.toList
    (λr I' M'=>r=.string (strOf (fu deb t.ns t.root))/\(∀ b o,dd b=some o->I' b=some o)/\M'=[]))):=by
 obtain⟨x,⟨yt,n,ey,cur⟩,aB,c8⟩:=x;obtain⟨hle,Dq,dN,bk,e8,l5,Rj⟩:=ab;simp only at hle Dq dN bk e8 l5 Rj aO |-;have GQ:=br.mono hle;have yG:=au.mono hle;have p6:=au.n;obtain⟨g0,⟨j,i,w⟩,rfl⟩:∃ g0 e,aB=g0++[e]:=by
  rcases J4 aB with h | ⟨r,e,h⟩;·exact(bk h).elim
  ·exact⟨r,e,by simpa using h⟩
 have kw:g0.length+1=n:=by have U:=dN.len;rw[Dn]at U;simp at U;omega
 have al:j<t.ns.length:=e8 (j,i,w) (by simp);have gm:j<t.n:=by omega
 cases yt with
 |none=>have:=(dN.nil rfl).1;simp only at this;omega| some ca=>
 obtain⟨dL,lY,kW,iC⟩:=dN.cap ca rfl;simp only at dL lY kW iC;have hr:(nF g0).length=(n-1)*3:=by rw[Dn];omega
 obtain⟨rest,ly⟩:∃ rest,cur=nF g0++([.int .i64 j,.int .i64 i,.bool w]++rest):=by refine⟨cur.drop (n*3),?_⟩;have aa:=uR (n*3) cur;rw[iC,yE,fN]at aa;exact aa.symm
 have Z4:cur[(n-1)*3+0]?=some (.int .i64 j):=by rw[ly,<-hr,ng (by omega)];simp
 have qs:cur[(n-1)*3+1]?=some (.int .i64 i):=by rw[ly,<-hr,ng (by omega)];simp
 have h7:cur[(n-1)*3+2]?=some (.bool w):=by rw[ly,<-hr,ng (by omega)];simp
 have u1:=Rb (deb:=deb) an;have lx:x.bs.length<=2412*t.ns.length:=by have:=congrArg List.length l5;rw[ck]at this;omega
 have Rk:=Rc t.ns (g0++[(j,i,w)]);simp only[ck,c5,eY]at Rk;have fg:=yG.ns t.ns[j] (cO al);have dP:=fg.kn;have h2:=yA (Gu an al);obtain⟨ad,bR,bh⟩:=yG.aU.row aP.c0 gm al;rw[yC]at l5;rw[qq]at Rj aO Rk;have tu:IntKind.i64.wrap ((n:Int)-1)=((n-1:Nat):Int):=by rw[wrap_i64 ⟨by omega,by omega⟩];omega
 refine aQ.mk (((n-1:Nat)):Int) tu ?_;refine a6.mk ⟨ca,0,none⟩ (n-1) rfl rfl (by show n-1<n;omega) ?_;refine cL.draw aS rfl rfl rfl ?_;refine aJ.mk [.int .i64 j] (lv (b:=ca) (cs:=cur) (T:=263) (by simp[bn.aY]) Z4) ?_;refine a6.mk ad j bR rfl gm ?_;refine aJ.mk _ (bh _) ?_;refine cz.mk λdj Z5 ak4=>?_;refine cX.mk [] (⟨ca,.cells cur.toArray 263 (0,0)⟩::x.M g) _ _ rfl rfl (bB rfl) rfl ?_;refine aJ.mk [.int .i64 i] (lv (b:=ca) (cs:=cur) (T:=263) (by simp[bn.aY]) qs) ?_;refine aI.mk (λU=>?_) (λU=>?_)
 ·refine aJ.mk [.bool w] (lv (b:=ca) (cs:=cur) (T:=263) (by simp[bn.aY]) h7) ?_;refine aI.mk (λaa=>?_) (λaa=>?_)
  ·refine aT.mk (x.M g) [⟨dj,.cells t.ns[j].cells.toArray 72 (0,0)⟩,⟨ca,.cells cur.toArray 263 (0,0)⟩] _ (f' (l₁:=[_,_])) (nz g Dq 40 (by omega)) ?_;rintro v dQ dt -⟨rfl,rfl,y,aG,gw,rfl⟩;have QU:y.bs.length<=2412*t.ns.length+1:=by rw[gw];simp;omega
   refine aJ.mk _ (dM (T:=72) (b:=dj) (cs:=t.ns[j].cells) (k:=0) (n:=9) (by simp) (bB rfl)) ?_;refine aT.mk [] (y.M g++[⟨dj,.cells t.ns[j].cells.toArray 72 (0,0)⟩,⟨ca,.cells cur.toArray 263 (0,0)⟩]) _ (by simp) (Q9 GQ.d GQ.s fg h2) ?_;rintro v dQ dt -⟨rfl,jM,rfl⟩;have k0:∀ b o,dd b=some o->dQ b=some o:=λb o h=>jM _ _ (hle _ _ h);have GR:=KM deb h2;refine aT.mk (y.M g) [⟨dj,.cells t.ns[j].cells.toArray 72 (0,0)⟩,⟨ca,.cells cur.toArray 263 (0,0)⟩] _ (by simp) (rZ g aG _ (by show _+(jq deb t.ns[j]).length<=_;omega)) ?_;rintro v j1 wk -⟨rfl,rfl,u,hu,uV,rfl⟩;have qt:u.bs=x.bs++mO deb t.ns (j,i,w):=by rw[uV,gw];simp only[mO,U,aa,r7 al,ba,a5];simp[strOf]
   have Q5:u.bs.length<=2412*t.ns.length+2401:=by rw[qt,ck];simp only[mO,U,aa,r7 al,ba,a5,ck,c5,eY];omega
   have ou:=br.mono k0;have rl:=au.mono k0;have pt:=rl.ns t.ns[j] (cO al);have wM:∀ {k m:Nat},k+m<=9->bE j1 (u.M g++[⟨dj,.cells t.ns[j].cells.toArray 72 (0,0)⟩,⟨ca,.cells cur.toArray 263 (0,0)⟩]) ((⟨dj,0,none⟩:Addr).add k) m ((t.ns[j].cells.drop k).take m):=λh=>dM (T:=72) (by simp) h;refine cL.draw aS rfl rfl rfl ?_;refine aJ.mk [.int .i64 i] (lv (b:=ca) (cs:=cur) (T:=263) (by simp[bn.aY]) qs) ?_;refine aJ.mk _ (wM (by decide)) ?_;refine aI.mk (λae=>?_) (λae=>?_)
   ·have ep:i<t.ns[j].kn:=by simpa using ae
    have pu:i<t.ns[j].kids.length:=by omega
    obtain⟨ec,e6,eo⟩:=pt.aU.one ep pu;have gT:=qf an j al _ (cO pu);obtain⟨q,jr⟩:=jf gT.1;have fr:q<t.ns.length:=by omega
    have jN:q<t.n:=by omega
    obtain⟨iE,lA,qu⟩:=rl.aU.row aP.c0 jN fr;have lB:∀ M,bE j1 M ((iE.add (q*9)).add 0) 1 [.int .u8 t.ns[q].k]:=λM=>(qu M).part (k:=0) (m:=1) (by decide);have ov:e7 t.ns ((q:Nat):Int)=t.ns[q].k:=by simp[e7,cQ,fr]
    have hH:=KP (deb:=deb) an al (w:=w) pu;have wN:=KQ an al (w:=w) (w':=fh t.ns[j].k t.ns[q].k) pu;rw[jr]at hH wN;simp only[GF,jA]at hH wN;rw[ov]at hH;have eJ:IntKind.i64.wrap ((i:Int)+1)=((i+1:Nat):Int):=by have:=pt.aU.cap;rw[wrap_i64 ⟨by omega,by omega⟩];omega
    have bQ:bw cur ((n-1)*3+1) [.int .i64 ((i+1:Nat):Int)]=nF g0++([.int .i64 j,.int .i64 ((i+1:Nat):Int),.bool w]++rest):=by rw[ly,<-hr];exact KU _ _ _ _ _ _
    have Dr:bn.ok ⟨some ca,n,ey,bw cur ((n-1)*3+1) [.int .i64 ((i+1:Nat):Int)]⟩ 3 (nF (g0++[(j,i+1,w)])):=by
     rw[bQ,yE];refine⟨by simp only[ck,c5,eY];omega,(λh=>by cases h),λbl _=>⟨?_,lY,kW,?_⟩⟩;·simp only;rw[<-dL,ly];simp
     ·simp only;rw[<-fN];refine q' ?_;simp only[ck,c5,eY];omega
    refine aJ.mk [.int .i64 i] (lv (b:=ca) (cs:=cur) (T:=263) (by simp[bn.aY]) qs) ?_;refine aI.mk (λbd=>by simp at U bd;omega) (λbd=>?_);refine cL.draw aS rfl rfl rfl ?_;refine aJ.mk _ (dM (T:=72) (b:=dj) (cs:=t.ns[j].cells) (k:=8) (n:=1) (by simp) (bB rfl)) ?_;refine aJ.mk [.int .i64 i] (lv (b:=ca) (cs:=cur) (T:=263) (by simp[bn.aY]) qs) ?_;refine a6.mk ec i e6 rfl ep ?_;refine aJ.mk [.int .i64 (q:Nat)] (by have eK:=eo;rw[jr]at eK;exact eK _) ?_;refine aJ.mk [.int .i64 i] (lv (b:=ca) (cs:=cur) (T:=263) (by simp[bn.aY]) qs) ?_;refine aQ.mk ((i+1:Nat):Int) eJ ?_;refine cX.wK (u.M g++[⟨dj,.cells t.ns[j].cells.toArray 72 (0,0)⟩]) [] cur.toArray 263 (by simp[bn.aY]) ?_ rfl ?_;·simp only[oY];show(n-1)*3+1+1<=_;omega
    refine cL.draw aS rfl rfl rfl ?_;refine aJ.mk [.int .u8 t.ns[j].k] (dM (T:=72) (b:=dj) (cs:=t.ns[j].cells) (k:=0) (n:=1) (by simp) (bB rfl)) ?_;refine a6.mk iE q lA rfl jN ?_;refine aJ.mk [.int .u8 t.ns[q].k] (lB _) ?_;refine jc.mk _ (Ky t.ns[j].k t.ns[q].k) ?_;rintro v Ds p' -⟨rfl,rfl,rfl⟩;refine cz.mk λbZ gb tv=>?_;refine be.append aS rfl (by simp) (e:=263) rfl rfl rfl ⟨some ca,n,ey,bw cur ((n-1)*3+1) [.int .i64 ((i+1:Nat):Int)]⟩ (xs:=nF (g0++[(j,i+1,w)])) Dr rfl (m:=1) rfl (news:=lz (q,0,fh t.ns[j].k t.ns[q].k)) (by decide) (dM (b:=bZ) (cs:=lz (q,0,fh t.ns[j].k t.ns[q].k)) (k:=0) (n:=3) (T:=263) (.head _) (bB rfl)) rfl (Mr:=⟨bZ,.cells (lz (q,0,fh t.ns[j].k t.ns[q].k)).toArray 263 (0,0)⟩::(u.M g++[⟨dj,.cells t.ns[j].cells.toArray 72 (0,0)⟩])) (by exact f' (l₁:=(⟨bZ,.cells (lz (q,0,fh t.ns[j].k t.ns[q].k)).toArray 263 (0,0)⟩:aC)::(u.M g++[⟨dj,.cells t.ns[j].cells.toArray 72 (0,0)⟩])) (l₂:=[⟨ca,.cells (bw cur ((n-1)*3+1) [.int .i64 ((i+1:Nat):Int)]).toArray 263 (0,0)⟩])) (by show n+1<=_;simp only[maxLen];omega) (by show(n+1)*24<=_;omega) ?_;intro c2 c' ga eH eI fK gK;refine⟨(g,u,⟨some c2,n+1,c',ga⟩,g0++[(j,i+1,w)]++[(q,0,fh t.ns[j].k t.ns[q].k)],_),aO _ ⟨k0,hu,⟨?_,(λh=>by cases h),λbl _=>⟨eH,eI,fK,?_⟩⟩,by simp,?_,?_,?_⟩ ?_,.perm (M1:=[⟨bZ,.cells (lz (q,0,fh t.ns[j].k t.ns[q].k)).toArray 263 (0,0)⟩,⟨dj,.cells t.ns[j].cells.toArray 72 (0,0)⟩]++(⟨c2,.cells ga.toArray 263 (0,0)⟩::u.M g)) (KT _ _ _ _) (.sub (mA _ _) .refl),da,.cons rfl .nil⟩;·show _=(n+1)*3;rw[Dn];simp;omega
    ·show ga.take ((n+1)*3)=_;rw[yE (g0++[(j,i+1,w)])];exact gK
    ·intro e he;simp only[en,kh]at he;rcases he with(he | rfl) | rfl
     ·exact e8 e (by simp[he])
     ·exact al
     ·exact fr
    ·simp only;rw[yC,yC,qt,<-l5,hH];rw[show decide (0<(i:Int))=false from bd];simp
    ·simp only;rw[qq,qq];omega
    ·simp only;rw[qq,qq];omega
   ·have ep:t.ns[j].kids.length<=i:=by simp at ae;omega
    have hH:=KR (deb:=deb) al (w:=w) ep;have ls:=GL t.ns[j];refine aJ.mk _ (dM (T:=72) (b:=dj) (cs:=t.ns[j].cells) (k:=0) (n:=9) (by simp) (bB rfl)) ?_;refine aT.mk [] (u.M g++[⟨dj,.cells t.ns[j].cells.toArray 72 (0,0)⟩,⟨ca,.cells cur.toArray 263 (0,0)⟩]) _ (.refl _) (KL ou.c ou.p ou.s pt h2) ?_;rintro v Ds p' -⟨rfl,rfl,rfl⟩;refine aT.mk (u.M g) [⟨dj,.cells t.ns[j].cells.toArray 72 (0,0)⟩,⟨ca,.cells cur.toArray 263 (0,0)⟩] _ (by simp) (rZ g hu _ (by show _+(iD t.ns[j]).length<=_;omega)) ?_;rintro v GS KX -⟨rfl,rfl,a,aD,gd,rfl⟩;have Rl:a.bs.length<=2412*t.ns.length+2410:=by rw[gd,ck];show _+(iD t.ns[j]).length<=_;omega
    refine aJ.mk [.bool w] (lv (b:=ca) (cs:=cur) (T:=263) (by simp[bn.aY]) h7) ?_;refine aI.mk (λhw=>?_) (λhw=>?_)
    ·subst hw;refine aT.mk (a.M g) [⟨dj,.cells t.ns[j].cells.toArray 72 (0,0)⟩,⟨ca,.cells cur.toArray 263 (0,0)⟩] _ (by simp) (nz g aD 41 (by omega)) ?_;rintro v GU KY -⟨rfl,rfl,c,aA,hR,rfl⟩;refine aQ.mk (((n-1:Nat)):Int) tu ?_;refine i'.mk 0 (n-1) rfl rfl (bj _) (by show n-1<=ey;omega) ?_;refine aI.mk (λbd=>?_) (λbd=>?_)
     ·have ir:0<n-1:=by simp at bd;omega
      refine⟨(g,c,⟨some ca,n-1,ey,cur⟩,g0,_),aO _ ⟨k0,aA,⟨?_,(λh=>by cases h),λbl _=>⟨dL,by show n-1<=ey;omega,kW,?_⟩⟩,?_,λe he=>e8 e (by simp[he]),?_,?_⟩ ?_,.perm (M1:=[⟨dj,.cells t.ns[j].cells.toArray 72 (0,0)⟩]++(⟨ca,.cells cur.toArray 263 (0,0)⟩::c.M g)) (f' (l₂:=[_,_])) (.sub (mA _ _) .refl),da,.cons rfl .nil⟩;·exact hr
      ·show cur.take ((n-1)*3)=_;rw[ly,<-hr];exact q' rfl
      ·intro h;simp only at h;rw[h]at kw;simp at kw;omega
      ·simp only;rw[hR,gd,qt,<-l5,hH];simp[strOf]
      ·simp only;omega
      ·simp only[l4];omega
     ·have ir:n-1=0:=by simp at bd;omega
      have r8:g0=[]:=lV (by omega);have kx:c.bs=fu deb t.ns t.root:=by rw[hR,gd,qt,<-l5,hH,r8];simp[r6,strOf]
      refine aT.mk (c.M g) [⟨dj,.cells t.ns[j].cells.toArray 72 (0,0)⟩,⟨ca,.cells cur.toArray 263 (0,0)⟩] _ (by simp) (uU g aA (by rw[kx];omega)) ?_;rintro v yH AG -⟨rfl,rfl,rfl⟩;refine⟨_,_,.sub (dJ _) .refl,?_,k0,rfl⟩;rw[kx];rfl
    ·subst hw;refine aQ.mk (((n-1:Nat)):Int) tu ?_;refine i'.mk 0 (n-1) rfl rfl (bj _) (by show n-1<=ey;omega) ?_;refine aI.mk (λbd=>?_) (λbd=>?_)
     ·have ir:0<n-1:=by simp at bd;omega
      refine⟨(g,a,⟨some ca,n-1,ey,cur⟩,g0,_),aO _ ⟨k0,aD,⟨?_,(λh=>by cases h),λbl _=>⟨dL,by show n-1<=ey;omega,kW,?_⟩⟩,?_,λe he=>e8 e (by simp[he]),?_,?_⟩ ?_,.perm (M1:=[⟨dj,.cells t.ns[j].cells.toArray 72 (0,0)⟩]++(⟨ca,.cells cur.toArray 263 (0,0)⟩::a.M g)) (f' (l₂:=[_,_])) (.sub (mA _ _) .refl),da,.cons rfl .nil⟩;·exact hr
      ·show cur.take ((n-1)*3)=_;rw[ly,<-hr];exact q' rfl
      ·intro h;simp only at h;rw[h]at kw;simp at kw;omega
      ·simp only;rw[gd,qt,<-l5,hH];simp[strOf]
      ·simp only;omega
      ·simp only[l4];omega
     ·have ir:n-1=0:=by simp at bd;omega
      have r8:g0=[]:=lV (by omega);have kx:a.bs=fu deb t.ns t.root:=by rw[gd,qt,<-l5,hH,r8];simp[r6,strOf]
      refine aT.mk (a.M g) [⟨dj,.cells t.ns[j].cells.toArray 72 (0,0)⟩,⟨ca,.cells cur.toArray 263 (0,0)⟩] _ (by simp) (uU g aD (by rw[kx];omega)) ?_;rintro v yH AG -⟨rfl,rfl,rfl⟩;refine⟨_,_,.sub (dJ _) .refl,?_,k0,rfl⟩;rw[kx];rfl
  ·refine aJ.mk _ (dM (T:=72) (b:=dj) (cs:=t.ns[j].cells) (k:=0) (n:=9) (.head _) (bB rfl)) ?_;refine aT.mk [] (⟨dj,.cells t.ns[j].cells.toArray 72 (0,0)⟩::⟨ca,.cells cur.toArray 263 (0,0)⟩::x.M g) _ (.refl _) (Q9 GQ.d GQ.s fg h2) ?_;rintro v dQ dt -⟨rfl,jM,rfl⟩;have k0:∀ b o,dd b=some o->dQ b=some o:=λb o h=>jM _ _ (hle _ _ h);have GR:=KM deb h2;refine aT.mk (x.M g) [⟨dj,.cells t.ns[j].cells.toArray 72 (0,0)⟩,⟨ca,.cells cur.toArray 263 (0,0)⟩] _ (f' (l₁:=[_,_])) (rZ g Dq _ (by show _+(jq deb t.ns[j]).length<=_;omega)) ?_;rintro v j1 wk -⟨rfl,rfl,u,hu,uV,rfl⟩;have qt:u.bs=x.bs++mO deb t.ns (j,i,w):=by rw[uV];simp only[mO,U,aa,r7 al,ba,a5];simp[strOf]
   have Q5:u.bs.length<=2412*t.ns.length+2401:=by rw[qt,ck];simp only[mO,U,aa,r7 al,ba,a5,ck,c5,eY];omega
   have ou:=br.mono k0;have rl:=au.mono k0;have pt:=rl.ns t.ns[j] (cO al);have wM:∀ {k m:Nat},k+m<=9->bE j1 (u.M g++[⟨dj,.cells t.ns[j].cells.toArray 72 (0,0)⟩,⟨ca,.cells cur.toArray 263 (0,0)⟩]) ((⟨dj,0,none⟩:Addr).add k) m ((t.ns[j].cells.drop k).take m):=λh=>dM (T:=72) (by simp) h;refine cL.draw aS rfl rfl rfl ?_;refine aJ.mk [.int .i64 i] (lv (b:=ca) (cs:=cur) (T:=263) (by simp[bn.aY]) qs) ?_;refine aJ.mk _ (wM (by decide)) ?_;refine aI.mk (λae=>?_) (λae=>?_)
   ·have ep:i<t.ns[j].kn:=by simpa using ae
    have pu:i<t.ns[j].kids.length:=by omega
    obtain⟨ec,e6,eo⟩:=pt.aU.one ep pu;have gT:=qf an j al _ (cO pu);obtain⟨q,jr⟩:=jf gT.1;have fr:q<t.ns.length:=by omega
    have jN:q<t.n:=by omega
    obtain⟨iE,lA,qu⟩:=rl.aU.row aP.c0 jN fr;have lB:∀ M,bE j1 M ((iE.add (q*9)).add 0) 1 [.int .u8 t.ns[q].k]:=λM=>(qu M).part (k:=0) (m:=1) (by decide);have ov:e7 t.ns ((q:Nat):Int)=t.ns[q].k:=by simp[e7,cQ,fr]
    have hH:=KP (deb:=deb) an al (w:=w) pu;have wN:=KQ an al (w:=w) (w':=fh t.ns[j].k t.ns[q].k) pu;rw[jr]at hH wN;simp only[GF,jA]at hH wN;rw[ov]at hH;have eJ:IntKind.i64.wrap ((i:Int)+1)=((i+1:Nat):Int):=by have:=pt.aU.cap;rw[wrap_i64 ⟨by omega,by omega⟩];omega
    have bQ:bw cur ((n-1)*3+1) [.int .i64 ((i+1:Nat):Int)]=nF g0++([.int .i64 j,.int .i64 ((i+1:Nat):Int),.bool w]++rest):=by rw[ly,<-hr];exact KU _ _ _ _ _ _
    have Dr:bn.ok ⟨some ca,n,ey,bw cur ((n-1)*3+1) [.int .i64 ((i+1:Nat):Int)]⟩ 3 (nF (g0++[(j,i+1,w)])):=by
     rw[bQ,yE];refine⟨by simp only[ck,c5,eY];omega,(λh=>by cases h),λbl _=>⟨?_,lY,kW,?_⟩⟩;·simp only;rw[<-dL,ly];simp
     ·simp only;rw[<-fN];refine q' ?_;simp only[ck,c5,eY];omega
    refine aJ.mk [.int .i64 i] (lv (b:=ca) (cs:=cur) (T:=263) (by simp[bn.aY]) qs) ?_;refine aI.mk (λbd=>by simp at U bd;omega) (λbd=>?_);refine cL.draw aS rfl rfl rfl ?_;refine aJ.mk _ (dM (T:=72) (b:=dj) (cs:=t.ns[j].cells) (k:=8) (n:=1) (by simp) (bB rfl)) ?_;refine aJ.mk [.int .i64 i] (lv (b:=ca) (cs:=cur) (T:=263) (by simp[bn.aY]) qs) ?_;refine a6.mk ec i e6 rfl ep ?_;refine aJ.mk [.int .i64 (q:Nat)] (by have eK:=eo;rw[jr]at eK;exact eK _) ?_;refine aJ.mk [.int .i64 i] (lv (b:=ca) (cs:=cur) (T:=263) (by simp[bn.aY]) qs) ?_;refine aQ.mk ((i+1:Nat):Int) eJ ?_;refine cX.wK (u.M g++[⟨dj,.cells t.ns[j].cells.toArray 72 (0,0)⟩]) [] cur.toArray 263 (by simp[bn.aY]) ?_ rfl ?_;·simp only[oY];show(n-1)*3+1+1<=_;omega
    refine cL.draw aS rfl rfl rfl ?_;refine aJ.mk [.int .u8 t.ns[j].k] (dM (T:=72) (b:=dj) (cs:=t.ns[j].cells) (k:=0) (n:=1) (by simp) (bB rfl)) ?_;refine a6.mk iE q lA rfl jN ?_;refine aJ.mk [.int .u8 t.ns[q].k] (lB _) ?_;refine jc.mk _ (Ky t.ns[j].k t.ns[q].k) ?_;rintro v Ds p' -⟨rfl,rfl,rfl⟩;refine cz.mk λbZ gb tv=>?_;refine be.append aS rfl (by simp) (e:=263) rfl rfl rfl ⟨some ca,n,ey,bw cur ((n-1)*3+1) [.int .i64 ((i+1:Nat):Int)]⟩ (xs:=nF (g0++[(j,i+1,w)])) Dr rfl (m:=1) rfl (news:=lz (q,0,fh t.ns[j].k t.ns[q].k)) (by decide) (dM (b:=bZ) (cs:=lz (q,0,fh t.ns[j].k t.ns[q].k)) (k:=0) (n:=3) (T:=263) (.head _) (bB rfl)) rfl (Mr:=⟨bZ,.cells (lz (q,0,fh t.ns[j].k t.ns[q].k)).toArray 263 (0,0)⟩::(u.M g++[⟨dj,.cells t.ns[j].cells.toArray 72 (0,0)⟩])) (by exact f' (l₁:=(⟨bZ,.cells (lz (q,0,fh t.ns[j].k t.ns[q].k)).toArray 263 (0,0)⟩:aC)::(u.M g++[⟨dj,.cells t.ns[j].cells.toArray 72 (0,0)⟩])) (l₂:=[⟨ca,.cells (bw cur ((n-1)*3+1) [.int .i64 ((i+1:Nat):Int)]).toArray 263 (0,0)⟩])) (by show n+1<=_;simp only[maxLen];omega) (by show(n+1)*24<=_;omega) ?_;intro c2 c' ga eH eI fK gK;refine⟨(g,u,⟨some c2,n+1,c',ga⟩,g0++[(j,i+1,w)]++[(q,0,fh t.ns[j].k t.ns[q].k)],_),aO _ ⟨k0,hu,⟨?_,(λh=>by cases h),λbl _=>⟨eH,eI,fK,?_⟩⟩,by simp,?_,?_,?_⟩ ?_,.perm (M1:=[⟨bZ,.cells (lz (q,0,fh t.ns[j].k t.ns[q].k)).toArray 263 (0,0)⟩,⟨dj,.cells t.ns[j].cells.toArray 72 (0,0)⟩]++(⟨c2,.cells ga.toArray 263 (0,0)⟩::u.M g)) (KT _ _ _ _) (.sub (mA _ _) .refl),da,.cons rfl .nil⟩;·show _=(n+1)*3;rw[Dn];simp;omega
    ·show ga.take ((n+1)*3)=_;rw[yE (g0++[(j,i+1,w)])];exact gK
    ·intro e he;simp only[en,kh]at he;rcases he with(he | rfl) | rfl
     ·exact e8 e (by simp[he])
     ·exact al
     ·exact fr
    ·simp only;rw[yC,yC,qt,<-l5,hH];rw[show decide (0<(i:Int))=false from bd];simp
    ·simp only;rw[qq,qq];omega
    ·simp only;rw[qq,qq];omega
   ·have ep:t.ns[j].kids.length<=i:=by simp at ae;omega
    have hH:=KR (deb:=deb) al (w:=w) ep;have ls:=GL t.ns[j];refine aJ.mk _ (dM (T:=72) (b:=dj) (cs:=t.ns[j].cells) (k:=0) (n:=9) (by simp) (bB rfl)) ?_;refine aT.mk [] (u.M g++[⟨dj,.cells t.ns[j].cells.toArray 72 (0,0)⟩,⟨ca,.cells cur.toArray 263 (0,0)⟩]) _ (.refl _) (KL ou.c ou.p ou.s pt h2) ?_;rintro v Ds p' -⟨rfl,rfl,rfl⟩;refine aT.mk (u.M g) [⟨dj,.cells t.ns[j].cells.toArray 72 (0,0)⟩,⟨ca,.cells cur.toArray 263 (0,0)⟩] _ (by simp) (rZ g hu _ (by show _+(iD t.ns[j]).length<=_;omega)) ?_;rintro v GS KX -⟨rfl,rfl,a,aD,gd,rfl⟩;have Rl:a.bs.length<=2412*t.ns.length+2410:=by rw[gd,ck];show _+(iD t.ns[j]).length<=_;omega
    refine aJ.mk [.bool w] (lv (b:=ca) (cs:=cur) (T:=263) (by simp[bn.aY]) h7) ?_;refine aI.mk (λhw=>?_) (λhw=>?_)
    ·subst hw;refine aT.mk (a.M g) [⟨dj,.cells t.ns[j].cells.toArray 72 (0,0)⟩,⟨ca,.cells cur.toArray 263 (0,0)⟩] _ (by simp) (nz g aD 41 (by omega)) ?_;rintro v GU KY -⟨rfl,rfl,c,aA,hR,rfl⟩;refine aQ.mk (((n-1:Nat)):Int) tu ?_;refine i'.mk 0 (n-1) rfl rfl (bj _) (by show n-1<=ey;omega) ?_;refine aI.mk (λbd=>?_) (λbd=>?_)
     ·have ir:0<n-1:=by simp at bd;omega
      refine⟨(g,c,⟨some ca,n-1,ey,cur⟩,g0,_),aO _ ⟨k0,aA,⟨?_,(λh=>by cases h),λbl _=>⟨dL,by show n-1<=ey;omega,kW,?_⟩⟩,?_,λe he=>e8 e (by simp[he]),?_,?_⟩ ?_,.perm (M1:=[⟨dj,.cells t.ns[j].cells.toArray 72 (0,0)⟩]++(⟨ca,.cells cur.toArray 263 (0,0)⟩::c.M g)) (f' (l₂:=[_,_])) (.sub (mA _ _) .refl),da,.cons rfl .nil⟩;·exact hr
      ·show cur.take ((n-1)*3)=_;rw[ly,<-hr];exact q' rfl
      ·intro h;simp only at h;rw[h]at kw;simp at kw;omega
      ·simp only;rw[hR,gd,qt,<-l5,hH];simp[strOf]
      ·simp only;omega
      ·simp only[l4];omega
     ·have ir:n-1=0:=by simp at bd;omega
      have r8:g0=[]:=lV (by omega);have kx:c.bs=fu deb t.ns t.root:=by rw[hR,gd,qt,<-l5,hH,r8];simp[r6,strOf]
      refine aT.mk (c.M g) [⟨dj,.cells t.ns[j].cells.toArray 72 (0,0)⟩,⟨ca,.cells cur.toArray 263 (0,0)⟩] _ (by simp) (uU g aA (by rw[kx];omega)) ?_;rintro v yH AG -⟨rfl,rfl,rfl⟩;refine⟨_,_,.sub (dJ _) .refl,?_,k0,rfl⟩;rw[kx];rfl
    ·subst hw;refine aQ.mk (((n-1:Nat)):Int) tu ?_;refine i'.mk 0 (n-1) rfl rfl (bj _) (by show n-1<=ey;omega) ?_;refine aI.mk (λbd=>?_) (λbd=>?_)
     ·have ir:0<n-1:=by simp at bd;omega
      refine⟨(g,a,⟨some ca,n-1,ey,cur⟩,g0,_),aO _ ⟨k0,aD,⟨?_,(λh=>by cases h),λbl _=>⟨dL,by show n-1<=ey;omega,kW,?_⟩⟩,?_,λe he=>e8 e (by simp[he]),?_,?_⟩ ?_,.perm (M1:=[⟨dj,.cells t.ns[j].cells.toArray 72 (0,0)⟩]++(⟨ca,.cells cur.toArray 263 (0,0)⟩::a.M g)) (f' (l₂:=[_,_])) (.sub (mA _ _) .refl),da,.cons rfl .nil⟩;·exact hr
      ·show cur.take ((n-1)*3)=_;rw[ly,<-hr];exact q' rfl
      ·intro h;simp only at h;rw[h]at kw;simp at kw;omega
      ·simp only;rw[gd,qt,<-l5,hH];simp[strOf]
      ·simp only;omega
      ·simp only[l4];omega
     ·have ir:n-1=0:=by simp at bd;omega
      have r8:g0=[]:=lV (by omega);have kx:a.bs=fu deb t.ns t.root:=by rw[gd,qt,<-l5,hH,r8];simp[r6,strOf]
      refine aT.mk (a.M g) [⟨dj,.cells t.ns[j].cells.toArray 72 (0,0)⟩,⟨ca,.cells cur.toArray 263 (0,0)⟩] _ (by simp) (uU g aD (by rw[kx];omega)) ?_;rintro v yH AG -⟨rfl,rfl,rfl⟩;refine⟨_,_,.sub (dJ _) .refl,?_,k0,rfl⟩;rw[kx];rfl
 ·have ak5:x.bs=x.bs++mO deb t.ns (j,i,w):=by simp only[mO,U,a5,fo]
  have ou:=br.mono hle;have rl:=au.mono hle;have pt:=rl.ns t.ns[j] (cO al);have wM:∀ {k m:Nat},k+m<=9->bE c8 (⟨dj,.cells t.ns[j].cells.toArray 72 (0,0)⟩::⟨ca,.cells cur.toArray 263 (0,0)⟩::x.M g) ((⟨dj,0,none⟩:Addr).add k) m ((t.ns[j].cells.drop k).take m):=λh=>dM (T:=72) (by simp) h;refine cL.draw aS rfl rfl rfl ?_;refine aJ.mk [.int .i64 i] (lv (b:=ca) (cs:=cur) (T:=263) (by simp[bn.aY]) qs) ?_;refine aJ.mk _ (wM (by decide)) ?_;refine aI.mk (λae=>?_) (λae=>?_)
  ·have ep:i<t.ns[j].kn:=by simpa using ae
   have pu:i<t.ns[j].kids.length:=by omega
   obtain⟨ec,e6,eo⟩:=pt.aU.one ep pu;have gT:=qf an j al _ (cO pu);obtain⟨q,jr⟩:=jf gT.1;have fr:q<t.ns.length:=by omega
   have jN:q<t.n:=by omega
   obtain⟨iE,lA,qu⟩:=rl.aU.row aP.c0 jN fr;have lB:∀ M,bE c8 M ((iE.add (q*9)).add 0) 1 [.int .u8 t.ns[q].k]:=λM=>(qu M).part (k:=0) (m:=1) (by decide);have ov:e7 t.ns ((q:Nat):Int)=t.ns[q].k:=by simp[e7,cQ,fr]
   have hH:=KP (deb:=deb) an al (w:=w) pu;have wN:=KQ an al (w:=w) (w':=fh t.ns[j].k t.ns[q].k) pu;rw[jr]at hH wN;simp only[GF,jA]at hH wN;rw[ov]at hH;have eJ:IntKind.i64.wrap ((i:Int)+1)=((i+1:Nat):Int):=by have:=pt.aU.cap;rw[wrap_i64 ⟨by omega,by omega⟩];omega
   have bQ:bw cur ((n-1)*3+1) [.int .i64 ((i+1:Nat):Int)]=nF g0++([.int .i64 j,.int .i64 ((i+1:Nat):Int),.bool w]++rest):=by rw[ly,<-hr];exact KU _ _ _ _ _ _
   have Dr:bn.ok ⟨some ca,n,ey,bw cur ((n-1)*3+1) [.int .i64 ((i+1:Nat):Int)]⟩ 3 (nF (g0++[(j,i+1,w)])):=by
    rw[bQ,yE];refine⟨by simp only[ck,c5,eY];omega,(λh=>by cases h),λbl _=>⟨?_,lY,kW,?_⟩⟩;·simp only;rw[<-dL,ly];simp
    ·simp only;rw[<-fN];refine q' ?_;simp only[ck,c5,eY];omega
   refine aJ.mk [.int .i64 i] (lv (b:=ca) (cs:=cur) (T:=263) (by simp[bn.aY]) qs) ?_;refine aI.mk (λbd=>?_) (λbd=>by simp at U bd;omega);refine aJ.mk [.int .u8 t.ns[j].k] (dM (T:=72) (b:=dj) (cs:=t.ns[j].cells) (k:=0) (n:=1) (.head _) (bB rfl)) ?_;refine dT.mk t.ns[j].k.toNat (by have:=pt.k;omega) (by have:=h2.k;have:=pt.k;omega) ?_;refine aJ.mk _ (ou.s.rd _ (by have:=h2.k;have:=pt.k;show t.ns[j].k.toNat*3+1<30;omega)) ?_;refine aT.mk (x.M g) [⟨dj,.cells t.ns[j].cells.toArray 72 (0,0)⟩,⟨ca,.cells cur.toArray 263 (0,0)⟩] _ (f' (l₁:=[_,_])) (rZ g Dq _ (by have:=Dl (t.ns[j].k.toNat*3+1);show _+(hf (t.ns[j].k.toNat*3+1)).length<=_;omega)) ?_;rintro v nq p9 -⟨rfl,rfl,z,Z6,Z7,rfl⟩;have rf:z.bs=x.bs++mN t.ns[j]:=Z7;refine cL.draw aS rfl rfl rfl ?_;refine aJ.mk _ (dM (T:=72) (b:=dj) (cs:=t.ns[j].cells) (k:=8) (n:=1) (by simp) (bB rfl)) ?_;refine aJ.mk [.int .i64 i] (lv (b:=ca) (cs:=cur) (T:=263) (by simp[bn.aY]) qs) ?_;refine a6.mk ec i e6 rfl ep ?_;refine aJ.mk [.int .i64 (q:Nat)] (by have eK:=eo;rw[jr]at eK;exact eK _) ?_;refine aJ.mk [.int .i64 i] (lv (b:=ca) (cs:=cur) (T:=263) (by simp[bn.aY]) qs) ?_;refine aQ.mk ((i+1:Nat):Int) eJ ?_;refine cX.wK (z.M g++[⟨dj,.cells t.ns[j].cells.toArray 72 (0,0)⟩]) [] cur.toArray 263 (by simp[bn.aY]) ?_ rfl ?_;·simp only[oY];show(n-1)*3+1+1<=_;omega
   refine cL.draw aS rfl rfl rfl ?_;refine aJ.mk [.int .u8 t.ns[j].k] (dM (T:=72) (b:=dj) (cs:=t.ns[j].cells) (k:=0) (n:=1) (by simp) (bB rfl)) ?_;refine a6.mk iE q lA rfl jN ?_;refine aJ.mk [.int .u8 t.ns[q].k] (lB _) ?_;refine jc.mk _ (Ky t.ns[j].k t.ns[q].k) ?_;rintro v Ds p' -⟨rfl,rfl,rfl⟩;refine cz.mk λbZ gb tv=>?_;refine be.append aS rfl (by simp) (e:=263) rfl rfl rfl ⟨some ca,n,ey,bw cur ((n-1)*3+1) [.int .i64 ((i+1:Nat):Int)]⟩ (xs:=nF (g0++[(j,i+1,w)])) Dr rfl (m:=1) rfl (news:=lz (q,0,fh t.ns[j].k t.ns[q].k)) (by decide) (dM (b:=bZ) (cs:=lz (q,0,fh t.ns[j].k t.ns[q].k)) (k:=0) (n:=3) (T:=263) (.head _) (bB rfl)) rfl (Mr:=⟨bZ,.cells (lz (q,0,fh t.ns[j].k t.ns[q].k)).toArray 263 (0,0)⟩::(z.M g++[⟨dj,.cells t.ns[j].cells.toArray 72 (0,0)⟩])) (by exact f' (l₁:=(⟨bZ,.cells (lz (q,0,fh t.ns[j].k t.ns[q].k)).toArray 263 (0,0)⟩:aC)::(z.M g++[⟨dj,.cells t.ns[j].cells.toArray 72 (0,0)⟩])) (l₂:=[⟨ca,.cells (bw cur ((n-1)*3+1) [.int .i64 ((i+1:Nat):Int)]).toArray 263 (0,0)⟩])) (by show n+1<=_;simp only[maxLen];omega) (by show(n+1)*24<=_;omega) ?_;intro c2 c' ga eH eI fK gK;refine⟨(g,z,⟨some c2,n+1,c',ga⟩,g0++[(j,i+1,w)]++[(q,0,fh t.ns[j].k t.ns[q].k)],_),aO _ ⟨hle,Z6,⟨?_,(λh=>by cases h),λbl _=>⟨eH,eI,fK,?_⟩⟩,by simp,?_,?_,?_⟩ ?_,.perm (M1:=[⟨bZ,.cells (lz (q,0,fh t.ns[j].k t.ns[q].k)).toArray 263 (0,0)⟩,⟨dj,.cells t.ns[j].cells.toArray 72 (0,0)⟩]++(⟨c2,.cells ga.toArray 263 (0,0)⟩::z.M g)) (KT _ _ _ _) (.sub (mA _ _) .refl),da,.cons rfl .nil⟩;·show _=(n+1)*3;rw[Dn];simp;omega
   ·show ga.take ((n+1)*3)=_;rw[yE (g0++[(j,i+1,w)])];exact gK
   ·intro e he;simp only[en,kh]at he;rcases he with(he | rfl) | rfl
    ·exact e8 e (by simp[he])
    ·exact al
    ·exact fr
   ·simp only;rw[yC,yC,rf,<-l5,hH];rw[show decide (0<(i:Int))=true from bd,show mO deb t.ns (j,i,w)=[]from by simp only[mO,U,a5]];simp
   ·simp only;rw[qq,qq];omega
   ·simp only;rw[qq,qq];omega
  ·have ep:t.ns[j].kids.length<=i:=by simp at ae;omega
   have Z8:=KR (deb:=deb) al (w:=w) ep;have hH:r5 deb t.ns (j,i,w)=iD t.ns[j]++(bif w then [41]else []):=by rw[Z8];simp only[mO,U,a5,nj]
   have ls:=GL t.ns[j];refine aJ.mk _ (dM (T:=72) (b:=dj) (cs:=t.ns[j].cells) (k:=0) (n:=9) (.head _) (bB rfl)) ?_;refine aT.mk [] (⟨dj,.cells t.ns[j].cells.toArray 72 (0,0)⟩::⟨ca,.cells cur.toArray 263 (0,0)⟩::x.M g) _ (.refl _) (KL ou.c ou.p ou.s pt h2) ?_;rintro v Ds p' -⟨rfl,rfl,rfl⟩;refine aT.mk (x.M g) [⟨dj,.cells t.ns[j].cells.toArray 72 (0,0)⟩,⟨ca,.cells cur.toArray 263 (0,0)⟩] _ (f' (l₁:=[_,_])) (rZ g Dq _ (by show _+(iD t.ns[j]).length<=_;omega)) ?_;rintro v GS KX -⟨rfl,rfl,a,aD,gd,rfl⟩;have Rl:a.bs.length<=2412*t.ns.length+2410:=by rw[gd,ck];show _+(iD t.ns[j]).length<=_;omega
   refine aJ.mk [.bool w] (lv (b:=ca) (cs:=cur) (T:=263) (by simp[bn.aY]) h7) ?_;refine aI.mk (λhw=>?_) (λhw=>?_)
   ·subst hw;refine aT.mk (a.M g) [⟨dj,.cells t.ns[j].cells.toArray 72 (0,0)⟩,⟨ca,.cells cur.toArray 263 (0,0)⟩] _ (by simp) (nz g aD 41 (by omega)) ?_;rintro v GU KY -⟨rfl,rfl,c,aA,hR,rfl⟩;refine aQ.mk (((n-1:Nat)):Int) tu ?_;refine i'.mk 0 (n-1) rfl rfl (bj _) (by show n-1<=ey;omega) ?_;refine aI.mk (λbd=>?_) (λbd=>?_)
    ·have ir:0<n-1:=by simp at bd;omega
     refine⟨(g,c,⟨some ca,n-1,ey,cur⟩,g0,_),aO _ ⟨hle,aA,⟨?_,(λh=>by cases h),λbl _=>⟨dL,by show n-1<=ey;omega,kW,?_⟩⟩,?_,λe he=>e8 e (by simp[he]),?_,?_⟩ ?_,.perm (M1:=[⟨dj,.cells t.ns[j].cells.toArray 72 (0,0)⟩]++(⟨ca,.cells cur.toArray 263 (0,0)⟩::c.M g)) (f' (l₂:=[_,_])) (.sub (mA _ _) .refl),da,.cons rfl .nil⟩;·exact hr
     ·show cur.take ((n-1)*3)=_;rw[ly,<-hr];exact q' rfl
     ·intro h;simp only at h;rw[h]at kw;simp at kw;omega
     ·simp only;rw[hR,gd,<-l5,hH];simp[strOf]
     ·simp only;omega
     ·simp only[l4];omega
    ·have ir:n-1=0:=by simp at bd;omega
     have r8:g0=[]:=lV (by omega);have kx:c.bs=fu deb t.ns t.root:=by rw[hR,gd,<-l5,hH,r8];simp[r6,strOf]
     refine aT.mk (c.M g) [⟨dj,.cells t.ns[j].cells.toArray 72 (0,0)⟩,⟨ca,.cells cur.toArray 263 (0,0)⟩] _ (by simp) (uU g aA (by rw[kx];omega)) ?_;rintro v yH AG -⟨rfl,rfl,rfl⟩;refine⟨_,_,.sub (dJ _) .refl,?_,hle,rfl⟩;rw[kx];rfl
   ·subst hw;refine aQ.mk (((n-1:Nat)):Int) tu ?_;refine i'.mk 0 (n-1) rfl rfl (bj _) (by show n-1<=ey;omega) ?_;refine aI.mk (λbd=>?_) (λbd=>?_)
    ·have ir:0<n-1:=by simp at bd;omega
     refine⟨(g,a,⟨some ca,n-1,ey,cur⟩,g0,_),aO _ ⟨hle,aD,⟨?_,(λh=>by cases h),λbl _=>⟨dL,by show n-1<=ey;omega,kW,?_⟩⟩,?_,λe he=>e8 e (by simp[he]),?_,?_⟩ ?_,.perm (M1:=[⟨dj,.cells t.ns[j].cells.toArray 72 (0,0)⟩]++(⟨ca,.cells cur.toArray 263 (0,0)⟩::a.M g)) (f' (l₂:=[_,_])) (.sub (mA _ _) .refl),da,.cons rfl .nil⟩;·exact hr
     ·show cur.take ((n-1)*3)=_;rw[ly,<-hr];exact q' rfl
     ·intro h;simp only at h;rw[h]at kw;simp at kw;omega
     ·simp only;rw[gd,<-l5,hH];simp[strOf]
     ·simp only;omega
     ·simp only[l4];omega
    ·have ir:n-1=0:=by simp at bd;omega
     have r8:g0=[]:=lV (by omega);have kx:a.bs=fu deb t.ns t.root:=by rw[gd,<-l5,hH,r8];simp[r6,strOf]
     refine aT.mk (a.M g) [⟨dj,.cells t.ns[j].cells.toArray 72 (0,0)⟩,⟨ca,.cells cur.toArray 263 (0,0)⟩] _ (by simp) (uU g aD (by rw[kx];omega)) ?_;rintro v yH AG -⟨rfl,rfl,rfl⟩;refine⟨_,_,.sub (dJ _) .refl,?_,hle,rfl⟩;rw[kx];rfl
def Rm{c:Code}{K:ko}{t1 t2 t3:Nat}{a b d:cW}{e:Option (List Value)}(h:∀ G yF,V X c (fL (fL (fL G t3 d) t2 b) t1 a) (hO yF t1 e) I M K)
  (U:F t1=a) (aa:F t2=b) (ag:F t3=d) (aK:C t1=e):V X c F C I M K:=by
 have:=h F C;rwa [KS ag,KS aa,KS U,Z2 aK]at this
def Z9(br:hG I deb)(au:t.ok I)(av:t.n<=1024):Spec Tryz.prog 187 [t.val] I [] λr I' M'=>r=.string (strOf (hs deb t))/\(∀ b o,I b=some o->I' b=some o)/\M'=[]:=by
 refine bC [3] aS Tryz.func187 rfl rfl rfl ?_;intro B aq;have p6:=au.n;cases an:right t with
 |true=>
  have KZ:hs deb t=fu deb t.ns t.root:=by simp[hs,an]
  rw[KZ];have AA:=Az an;obtain⟨r,gY⟩:=jf AA.1;have jl:r<t.ns.length:=by omega
  obtain⟨ns,GV,GW,GX,root⟩:=t;simp only at gY;subst gY;have gY:(⟨ns,GV,GW,GX,Int.ofNat r⟩:bJ).root=Int.ofNat r:=rfl;refine cL.scope aS rfl (λy:Nat×Dp=>Rh ⟨ns,GV,GW,GX,Int.ofNat r⟩ y.1 y.2) (λ_=>0) (λy=>GO I deb ⟨ns,GV,GW,GX,Int.ofNat r⟩ y.2) (λy=>tt ns y.2.2.2.1) (λ_=>Rg (GN (Tryz.f187.body.getD .skip)) 0) (λ_ _=>⟨by kernel_rfl,by kernel_rfl⟩) ?_ ?_
  ·refine aT.mk [] [] _ (.refl _) (Ay br.c au) ?_;rintro v I' M' -⟨rfl,rfl,rfl⟩;rw[an];refine aI.mk (λh=>by cases h) (λ_=>?_);refine cz.mk λg ar wE=>?_;refine cz.mk λfP u2 ak6=>?_;refine Rm (t1:=1) (t2:=3) (t3:=4) (λG yF=>Ri br au an av (p:=λl y=>GO _ deb ⟨ns,GV,GW,GX,Int.ofNat r⟩ y.2/\0=l) (g:=g) (fp.new,⟨some fP,1,1,lz (r,0,false)⟩,[(r,0,false)],I') ?_ (λy aG _=>⟨aG,rfl⟩) B aq G yF) rfl rfl rfl rfl;refine⟨λ_ _ h=>h,fp.Gx,⟨rfl,(λh=>by cases h),λbl _=>⟨rfl,b6 _,by simp only[maxLen];omega,rfl⟩⟩,by simp,?_,?_,?_⟩
   ·intro e he;simp only[kh]at he;subst he;exact jl
   ·simp only[r6,List.reverse_singleton,og,GJ,fo];have eK:=Re (deb:=deb) an jl false;simp only at eK |-;rw[eK];simp[fp.new,paren]
   ·have U:=Rf an jl false;have aa:=Z1 an;simp only[GF]at U aa;simp only[tt,dA,pi,oh,List.sum_nil];omega
  ·rintro⟨g,x⟩ab;refine Rm (t1:=1) (t2:=3) (t3:=4) (λG yF=>Ri br au an av (g:=g) x ab (λy aG aL=>⟨⟨aG,rfl⟩,aL⟩) B aq G yF) rfl rfl rfl rfl
 |false=>
  have KZ:hs deb t=[]:=by simp[hs,an]
  rw[KZ];refine cL.scope aS rfl (ι:=Empty) (λe=>nomatch e) (λe=>nomatch e) (λe=>nomatch e) (λe=>nomatch e) (λ_=>.skip) (λe=>nomatch e) ?_ (λe=>nomatch e);refine aT.mk [] [] _ (.refl _) (Ay br.c au) ?_;rintro v I' M' -⟨rfl,rfl,rfl⟩;rw[an];refine aI.mk (λ_=>?_) (λh=>by cases h);exact⟨_,_,.refl,rfl,λ_ _ h=>h,rfl⟩
def a'.val(d:a'):Value:=.agg #[.string d.name,.slice d.t.a d.t.n d.t.c,.int .i64 d.t.root]
def ky(deb:List Int)(d:a'):List UInt8:=
 bif decide (strOf (hs deb d.t)=⟨#[]⟩) || !gI d.name then []else d.name.data.toList++[32,60,45,32]++hs deb d.t++[10]
def K0{s:ByteArray}(h:gI s=true):s.size<=32:=by unfold gI at h;simp only[bL,ft]at h;omega
def K1(deb:List Int)(d:a'):(ky deb d).length<=37+2412*d.t.ns.length:=by
 have U:=GM deb d.t;unfold ky;cases aA:(decide (strOf (hs deb d.t)=⟨#[]⟩) || !gI d.name)with
 |true=>simp| false=>simp only[lq,GH]at aA;have aa:=K0 aA.2;have ag:d.name.data.toList.length=d.name.size:=rfl;simp only[a5,ck,c5,eY];omega
def Z'(br:hG I deb){d:a'}(ai:d.ok I)(av:d.t.n<=1024):Spec Tryz.prog 174 [d.val] I [] λr I' M'=>r=.string (strOf (ky deb d))/\(∀ b o,I b=some o->I' b=some o)/\M'=[]:=by
 refine bC [] aS Tryz.func174 rfl rfl rfl ?_;intro B aq;refine aT.mk [] [] _ (.refl _) (Z9 br ai.t av) ?_;rintro v c8 M1 -⟨rfl,cn,rfl⟩;refine bo.mk (λU=>?_) (λU=>?_)
 ·refine aT.mk [] [] _ (.refl _) (Ks _ d.name) ?_;rintro v I' M' -⟨rfl,rfl,rfl⟩;refine aI.mk (λaa=>?_) (λaa=>?_)
  ·refine⟨_,_,.refl,?_,cn,rfl⟩;have:ky deb d=[]:=by unfold ky;rw[U,aa];rfl
   rw[this];rfl
  ·have hm:gI d.name=true:=by simpa using aa
   have aa:=K0 hm;have ag:d.name.data.toList.length=d.name.size:=rfl;have aK:=GM deb d.t;have bg:=ai.t.n;refine cu.concat (a:=d.name) (b:=strOf [32,60,45,32]) (by show _+4<=_;omega) ?_;refine cu.concat (a:=d.name++strOf [32,60,45,32]) (b:=strOf (hs deb d.t)) (by rw[yw];show _+4+(hs deb d.t).length<=_;omega) ?_;refine cu.concat (a:=d.name++strOf [32,60,45,32]++strOf (hs deb d.t)) (b:=strOf [10]) (by rw[yw,yw];show _+4+(hs deb d.t).length+1<=_;omega) ?_;refine⟨_,_,.refl,?_,cn,rfl⟩;refine congrArg Value.string (wG ?_);rw[ky,U,hm];simp[strOf]
 ·refine⟨_,_,.refl,?_,cn,rfl⟩;have:ky deb d=[]:=by unfold ky;rw[U];rfl
  rw[this];rfl
def ht(deb:List Int):List a'->List UInt8->List UInt8
 |[],acc=>acc| d::ds,acc=>bif decide (strOf (ky deb d)=⟨#[]⟩)then []else ht deb ds (acc++ky deb d)
def Rn(deb:List Int):∀ (ds:List a') (acc:List UInt8) (m:Nat),(∀ d∈ds,d.t.ns.length<=1024)->acc.length<=m->(ht deb ds acc).length<=m+2500000*ds.length
 |[],acc,m,_,h=>by simpa[ht]using h
 |d::ds,acc,m,ai,h=>by
  have U:=K1 deb d;have aa:=ai d (by simp);have ag:=Rn deb ds (acc++ky deb d) (m+2500000) (λx ab=>ai x (by simp[ab])) (by rw[ck];omega);unfold ht;cases decide (strOf (ky deb d)=⟨#[]⟩);·simp only[a5,c5];omega
  ·simp
def aaa(br:hG I deb)(ar:g.ok I)(av:g.n<=64)(au:∀ d∈g.ds,d.t.n<=1024):Spec Tryz.prog 155 [g.val] I [] λr I' M'=>r=.string (strOf (ht deb g.ds []))/\(∀ b o,I b=some o->I' b=some o)/\M'=[]:=by
 refine bC [3] aS Tryz.func155 rfl rfl rfl ?_;intro B aq;have js:=ar.n;have u1:∀ d∈g.ds,d.t.ns.length<=1024:=λd ai=>by rw[(ar.ds d ai).t.n];exact au d ai
 refine cz.mk λb af tk=>?_;refine cD.inv (ι:=Nat×fp×aN) (λp=>{ bA:=[(3,.val (ptr b)),(8,.val (.slice g.a g.n g.c)),(9,.val (.int .i64 g.n)),(10,.val (.int .i64 p.1))],cj:=p.2.2,dx:=p.2.1.M b }) (λp=>p.1<=g.n/\p.2.1.ok/\(∀ b o,I b=some o->p.2.2 b=some o)/\p.2.1.bs.length<=2500000*p.1/\ht deb g.ds []=ht deb (g.ds.drop p.1) p.2.1.bs) (λp=>g.n-p.1) ?_ ?_
 ·exact⟨(0,fp.new,I),⟨by simp,fp.Gx,λ_ _ h=>h,by simp[fp.new],rfl⟩,.refl,dr,.nil⟩
 ·rintro⟨i,x,c8⟩⟨hi,ab,cn,lx,mL⟩;simp only at hi ab cn lx mL;refine aI.mk (λh=>?_) (λh=>?_)
  ·have aL:i<g.n:=by simpa using h
   have bi:i<g.ds.length:=by omega
   have jn:=ar.mono cn;obtain⟨ad,bR,bh⟩:=jn.aU.row a'.c0 aL bi;have er:g.ds[i]∈g.ds:=cO bi;have Dt:=K1 deb g.ds[i];have eK:=u1 _ er;have eR:g.ds.drop i=g.ds[i]::g.ds.drop (i+1):=dS bi;refine a6.mk ad i bR rfl aL ?_;refine aJ.mk _ (bh _) ?_;refine aT.mk [] (x.M b) _ (.refl _) (Z' (br.mono cn) (jn.ds _ er) (au _ er)) ?_;rintro v dQ dt -⟨rfl,jM,rfl⟩;refine aI.mk (λU=>?_) (λU=>?_);·refine⟨_,_,.sub (dJ _) .refl,?_,λb o h=>jM _ _ (cn _ _ h),rfl⟩;rw[mL,eR,ht,U];rfl
   ·refine aT.mk (x.M b) [] _ (by simp) (rZ b ab _ (by show _+(ky deb g.ds[i]).length<=_;omega)) ?_;rintro v I' M' -⟨rfl,rfl,y,aG,gw,rfl⟩;have Ro:y.bs=x.bs++ky deb g.ds[i]:=gw;have eJ:IntKind.i64.wrap ((i:Int)+1)=((i+1:Nat):Int):=by rw[wrap_i64 ⟨by omega,by omega⟩];omega
    refine aQ.mk _ eJ ?_;refine⟨(i+1,y,_),⟨⟨by simp only;omega,aG,λb o h=>jM _ _ (cn _ _ h),?_,?_⟩,by simp only;omega⟩,.perm (by simp) .refl,dr,.nil⟩;·simp only;rw[Ro,ck];omega
    ·simp only;rw[mL,eR,ht,U,Ro];rfl
  ·have c1:g.n<=i:=by simpa using h
   have fa:g.ds.drop i=[]:=hc (by omega);refine aT.mk (x.M b) [] _ (by simp) (uU b ab (by omega)) ?_;rintro v I' M' -⟨rfl,rfl,rfl⟩;refine⟨_,_,.refl,?_,cn,by simp⟩;rw[mL,fa];rfl
def aab(br:hG I deb)(ar:g.ok I)(av:g.n<=64)(au:∀ d∈g.ds,d.t.n<=1024):Spec Tryz.prog 116 [g.val] I [] λr I' M'=>r=.int .i64 ((ht deb g.ds []).length:Int)/\(∀ b o,I b=some o->I' b=some o)/\M'=[]:=by refine bC [] aS Tryz.func116 rfl rfl rfl ?_;intro B aq;refine aT.mk [] [] _ (.refl _) (aaa br ar av au) ?_;rintro v I' M' -⟨rfl,a9,rfl⟩;exact⟨_,_,.refl,rfl,a9,rfl⟩
def jO(ns:List aP)(kind:Int):List Int->Bool
 |[]=>true| k::ks=>bif decide (e7 ns k=kind)||(decide (e7 ns k=0)&&decide (kind=4))then false else jO ns kind ks
def jP(ns:List aP):List aP->Bool
 |[]=>true| d::ds=>bif !decide (d.k=4) && !decide (d.k=5)then jP ns ds else bif jO ns d.k d.kids then jP ns ds else false
def normal(t:bJ):Bool:=right t&&jP t.ns t.ns
def bU(h:i<=140737488355328):IntKind.i64.wrap ((i:Int)+1)=((i+1:Nat):Int):=by rw[wrap_i64 ⟨by omega,by omega⟩];omega
def aac(aA:pj I)(au:t.ok I):Spec Tryz.prog 84 [t.val] I [] (λv I' M'=>v=.bool (normal t)/\I'=I/\M'=[]):=by
 refine bC [] aS Tryz.func84 rfl rfl rfl ?_;intro B aq;have av:=au.n;have ny:=au.aU.cap;refine aT.mk [] [] _ (.refl _) (Ay aA au) ?_;rintro v I' M' -⟨rfl,rfl,rfl⟩;refine aI.mk (λh=>?_) (λh=>?_)
 ·refine⟨_,_,.refl,?_,rfl,rfl⟩;simp[normal,show right t=false by simpa using h]
 ·have an:right t=true:=by simpa using h
  have eO:normal t=jP t.ns t.ns:=by simp[normal,an]
  rw[eO];refine cD.inv (ι:=Nat) (λi=>{ bA:=[(1,.ref 1 0),(12,.val (.slice t.a t.n t.c)),(13,.val (.int .i64 t.n)),(14,.val (.int .i64 i))],cl:=[(1,t.cells)],cj:=I' }) (λi=>i<=t.n/\jP t.ns t.ns=jP t.ns (t.ns.drop i)) (λi=>t.n-i) ?_ ?_;·exact⟨0,⟨by simp,rfl⟩,.refl,dr,.cons rfl .nil⟩
  ·rintro i⟨hi,e8⟩;refine aI.mk (λh=>?_) (λh=>?_)
   ·have aL:i<t.n:=by simpa using h
    have bi:i<t.ns.length:=by omega
    obtain⟨ad,bR,bh⟩:=au.aU.row aP.c0 aL bi;have fg:=au.ns t.ns[i] (cO bi);have dP:=fg.kn;have eR:t.ns.drop i=t.ns[i]::t.ns.drop (i+1):=dS bi;refine a6.mk ad i bR rfl aL ?_;refine aJ.mk _ (bh _) ?_;refine bo.mk (λcM=>?_) (λcM=>?_)
    ·refine aI.mk (λcp=>?_) (λcp=>?_)
     ·refine aQ.mk _ (bU (i:=i) (by omega)) ?_;refine⟨i+1,⟨⟨by omega,?_⟩,by omega⟩,.refl,dr,.cons rfl .nil⟩;rw[e8,eR,jP,cM,cp];rfl
     ·have hU:jP t.ns t.ns=bif jO t.ns t.ns[i].k t.ns[i].kids then jP t.ns (t.ns.drop (i+1))else false:=by rw[e8,eR,jP,cM,cp];rfl
      refine cD.inv (ι:=Nat) (λj=>{ bA:=[(1,.ref 1 0),(4,.ref 4 0),(12,.val (.slice t.a t.n t.c)),(13,.val (.int .i64 t.n)),(14,.val (.int .i64 i)),(27,.val (.slice t.ns[i].kX t.ns[i].kn t.ns[i].j0)),(28,.val (.int .i64 t.ns[i].kn)),(29,.val (.int .i64 j))],cl:=[(1,t.cells),(4,t.ns[i].cells)],cj:=I' }) (λj=>j<=t.ns[i].kn/\jO t.ns t.ns[i].k t.ns[i].kids=jO t.ns t.ns[i].k (t.ns[i].kids.drop j)) (λj=>t.ns[i].kn-j) ?_ ?_;·exact⟨0,⟨by simp,rfl⟩,.refl,uL,.cons rfl (.cons rfl .nil)⟩
      ·rintro j⟨al,ow⟩;refine aI.mk (λh=>?_) (λh=>?_)
       ·have dF:j<t.ns[i].kn:=by simpa using h
        have gn:j<t.ns[i].kids.length:=by omega
        obtain⟨ec,e6,eo⟩:=fg.aU.one dF gn;have hq:t.ns[i].kids.drop j=t.ns[i].kids[j]::t.ns[i].kids.drop (j+1):=dS gn;have gT:=qf an i bi _ (cO gn);generalize Dc:t.ns[i].kids[j]=K2 at *;obtain⟨q,rfl⟩:=jf gT.1;have fr:q<t.ns.length:=by omega
        have jN:q<t.n:=by omega
        obtain⟨iE,lA,qu⟩:=au.aU.row aP.c0 jN fr;have lB:∀ M,bE I' M ((iE.add (q*9)).add 0) 1 [.int .u8 t.ns[q].k]:=λM=>(qu M).part (k:=0) (m:=1) (by decide);have ov:e7 t.ns ((q:Nat):Int)=t.ns[q].k:=by simp[e7,cQ,fr]
        have bad:(decide (t.ns[q].k=t.ns[i].k)||(decide (t.ns[q].k=0)&&decide (t.ns[i].k=4)))=true->jP t.ns t.ns=false:=λaf=>by rw[hU,ow,hq,jO,ov,af];rfl
        have r9:(decide (t.ns[q].k=t.ns[i].k)||(decide (t.ns[q].k=0)&&decide (t.ns[i].k=4)))=false->jO t.ns t.ns[i].k t.ns[i].kids=jO t.ns t.ns[i].k (t.ns[i].kids.drop (j+1)):=λaf=>by rw[ow,hq,jO,ov,af];rfl
        have eJ:=bU (i:=j) (by have:=fg.aU.cap;omega);refine a6.mk ec j e6 rfl dF ?_;refine aJ.mk _ (eo _) ?_;refine a6.mk iE q lA rfl jN ?_;refine aJ.mk _ (lB _) ?_;refine bo.mk (λdw=>?_) (λdw=>?_)
        ·refine bo.mk (λef=>?_) (λef=>?_)
         ·refine aI.mk (λhV=>?_) (λhV=>?_)
          ·refine⟨_,_,.refl,?_,rfl,rfl⟩;rw[bad (by rw[dw,ef,hV];rfl)]
          ·refine aQ.mk _ eJ ?_;exact⟨j+1,⟨⟨by omega,r9 (by rw[dw,ef,hV];rfl)⟩,by omega⟩,.refl,uL,.cons rfl (.cons rfl .nil)⟩
         ·refine aQ.mk _ eJ ?_;exact⟨j+1,⟨⟨by omega,r9 (by rw[dw,ef];rfl)⟩,by omega⟩,.refl,uL,.cons rfl (.cons rfl .nil)⟩
        ·refine⟨_,_,.refl,?_,rfl,rfl⟩;rw[bad (by rw[dw];rfl)]
       ·have rY:t.ns[i].kids.drop j=[]:=hc (by simp at h;omega);refine aQ.mk _ (bU (i:=i) (by omega)) ?_;refine⟨i+1,⟨⟨by omega,?_⟩,by omega⟩,.refl,dr,.cons rfl .nil⟩;rw[hU,ow,rY];rfl
    ·have hU:jP t.ns t.ns=bif jO t.ns t.ns[i].k t.ns[i].kids then jP t.ns (t.ns.drop (i+1))else false:=by rw[e8,eR,jP,cM];rfl
     refine cD.inv (ι:=Nat) (λj=>{ bA:=[(1,.ref 1 0),(4,.ref 4 0),(12,.val (.slice t.a t.n t.c)),(13,.val (.int .i64 t.n)),(14,.val (.int .i64 i)),(27,.val (.slice t.ns[i].kX t.ns[i].kn t.ns[i].j0)),(28,.val (.int .i64 t.ns[i].kn)),(29,.val (.int .i64 j))],cl:=[(1,t.cells),(4,t.ns[i].cells)],cj:=I' }) (λj=>j<=t.ns[i].kn/\jO t.ns t.ns[i].k t.ns[i].kids=jO t.ns t.ns[i].k (t.ns[i].kids.drop j)) (λj=>t.ns[i].kn-j) ?_ ?_;·exact⟨0,⟨by simp,rfl⟩,.refl,uL,.cons rfl (.cons rfl .nil)⟩
     ·rintro j⟨al,ow⟩;refine aI.mk (λh=>?_) (λh=>?_)
      ·have dF:j<t.ns[i].kn:=by simpa using h
       have gn:j<t.ns[i].kids.length:=by omega
       obtain⟨ec,e6,eo⟩:=fg.aU.one dF gn;have hq:t.ns[i].kids.drop j=t.ns[i].kids[j]::t.ns[i].kids.drop (j+1):=dS gn;have gT:=qf an i bi _ (cO gn);generalize Dc:t.ns[i].kids[j]=K2 at *;obtain⟨q,rfl⟩:=jf gT.1;have fr:q<t.ns.length:=by omega
       have jN:q<t.n:=by omega
       obtain⟨iE,lA,qu⟩:=au.aU.row aP.c0 jN fr;have lB:∀ M,bE I' M ((iE.add (q*9)).add 0) 1 [.int .u8 t.ns[q].k]:=λM=>(qu M).part (k:=0) (m:=1) (by decide);have ov:e7 t.ns ((q:Nat):Int)=t.ns[q].k:=by simp[e7,cQ,fr]
       have bad:(decide (t.ns[q].k=t.ns[i].k)||(decide (t.ns[q].k=0)&&decide (t.ns[i].k=4)))=true->jP t.ns t.ns=false:=λaf=>by rw[hU,ow,hq,jO,ov,af];rfl
       have r9:(decide (t.ns[q].k=t.ns[i].k)||(decide (t.ns[q].k=0)&&decide (t.ns[i].k=4)))=false->jO t.ns t.ns[i].k t.ns[i].kids=jO t.ns t.ns[i].k (t.ns[i].kids.drop (j+1)):=λaf=>by rw[ow,hq,jO,ov,af];rfl
       have eJ:=bU (i:=j) (by have:=fg.aU.cap;omega);refine a6.mk ec j e6 rfl dF ?_;refine aJ.mk _ (eo _) ?_;refine a6.mk iE q lA rfl jN ?_;refine aJ.mk _ (lB _) ?_;refine bo.mk (λdw=>?_) (λdw=>?_)
       ·refine bo.mk (λef=>?_) (λef=>?_)
        ·refine aI.mk (λhV=>?_) (λhV=>?_)
         ·refine⟨_,_,.refl,?_,rfl,rfl⟩;rw[bad (by rw[dw,ef,hV];rfl)]
         ·refine aQ.mk _ eJ ?_;exact⟨j+1,⟨⟨by omega,r9 (by rw[dw,ef,hV];rfl)⟩,by omega⟩,.refl,uL,.cons rfl (.cons rfl .nil)⟩
        ·refine aQ.mk _ eJ ?_;exact⟨j+1,⟨⟨by omega,r9 (by rw[dw,ef];rfl)⟩,by omega⟩,.refl,uL,.cons rfl (.cons rfl .nil)⟩
       ·refine⟨_,_,.refl,?_,rfl,rfl⟩;rw[bad (by rw[dw];rfl)]
      ·have rY:t.ns[i].kids.drop j=[]:=hc (by simp at h;omega);refine aQ.mk _ (bU (i:=i) (by omega)) ?_;refine⟨i+1,⟨⟨by omega,?_⟩,by omega⟩,.refl,dr,.cons rfl .nil⟩;rw[hU,ow,rY];rfl
   ·have c1:t.n<=i:=by simpa using h
    have fa:t.ns.drop i=[]:=hc (by omega);refine⟨_,_,.refl,?_,rfl,rfl⟩;rw[e8,fa];rfl
def j3(t:bJ):Nat:=bif right t then t.n else 0
def mP(g:b3):Nat:=(g.ds.map λd=>j3 d.t).sum
def Rp{α:Type}(f:α->Nat)(m:Nat):∀ (l:List α),(∀ x∈l,f x<=m)->(l.map f).sum<=m*l.length
 |[],_=>by simp
 |x::l,h=>by have U:=h x (by simp);have aa:=Rp f m l λy aG=>h y (by simp[aG]);simp only[dA,oh,c5,CQ];omega
def aad(aA:pj I)(ar:g.ok I)(av:g.n<=64)(au:∀ d∈g.ds,d.t.n<=1024):Spec Tryz.prog 115 [g.val] I [] (λv I' M'=>v=.int .i64 (mP g:Nat)/\I'=I/\M'=[]):=by
 refine bC [] aS Tryz.func115 rfl rfl rfl ?_;intro B aq;have js:=ar.n;refine cD.inv (ι:=Nat) (λi=>{ bA:=[(3,.val (.int .i64 (((g.ds.take i).map λd=>j3 d.t).sum:Nat))),(7,.val (.slice g.a g.n g.c)),(8,.val (.int .i64 g.n)),(9,.val (.int .i64 i))],cj:=I }) (λi=>i<=g.n) (λi=>g.n-i) ?_ ?_
 ·exact⟨0,by simp,.refl,dr,.nil⟩
 ·intro i hi;refine aI.mk (λh=>?_) (λh=>?_)
  ·have aL:i<g.n:=by simpa using h
   have bi:i<g.ds.length:=by omega
   obtain⟨ad,bR,bh⟩:=ar.aU.row a'.c0 aL bi;have er:g.ds[i]∈g.ds:=cO bi;have ao:((g.ds.take i).map λd=>j3 d.t).sum<=1024*(g.ds.take i).length:=Rp _ 1024 _ λd ai=>by
    have:=au d (GG ai);unfold j3;cases right d.t<;>simp
    omega
   have ay:=As i g.ds;have fY:j3 g.ds[i].t<=1024:=by
    have:=au _ er;unfold j3;cases right g.ds[i].t<;>simp
    omega
   refine a6.mk ad i bR rfl aL ?_;refine aJ.mk _ (bh _) ?_;refine aT.mk [] [] _ (.refl _) (Zo aA (ar.ds _ er).t) ?_;rintro v I' M' -⟨rfl,rfl,rfl⟩;have ax:(bif right g.ds[i].t then(g.ds[i].t.n:Int)else 0)=(j3 g.ds[i].t:Nat):=by
    unfold j3;cases right g.ds[i].t<;>rfl
   rw[ax];refine aQ.mk ((((g.ds.take (i+1)).map λd=>j3 d.t).sum:Nat):Int) ?_ ?_;·rw[wrap_i64 ⟨by omega,by omega⟩,g9 bi,gg,yy];simp
   refine aQ.mk _ (bU (i:=i) (by omega)) ?_;exact⟨i+1,⟨by omega,by omega⟩,.refl,dr,.nil⟩
  ·have c1:g.n<=i:=by simpa using h
   refine⟨_,_,.refl,?_,rfl,rfl⟩;rw[gv (by omega)];rfl
def h8(deb:List Int)(g:b3):Bool:=
 decide (64<g.n)||((!g.ds.all λd=>gZ d.t)||(decide (1024<mP g)||decide (8192<(ht deb g.ds []).length)))
def aae(br:hG I deb)(ar:g.ok I):Spec Tryz.prog 85 [g.val] I [] (λv I' M'=>v=.bool (h8 deb g)/\(∀ b o,I b=some o->I' b=some o)/\M'=[]):=by
 refine bC [] aS Tryz.func85 rfl rfl rfl ?_;intro B aq;have js:=ar.n;refine aI.mk (λU=>?_) (λU=>?_)
 ·refine⟨_,_,.refl,?_,λ_ _ h=>h,rfl⟩;have:64<g.n:=by simp at U;omega
  simp[h8,this]
 ·have av:g.n<=64:=by simp at U;omega
  have b7:h8 deb g=((!g.ds.all λd=>gZ d.t)||(decide (1024<mP g)||decide (8192<(ht deb g.ds []).length))):=by
   have:¬ 64<g.n:=by omega
   simp[h8,this]
  rw[b7];refine cD.inv (ι:=Nat) (λi=>{ bA:=[(1,.ref 1 0),(10,.val (.slice g.a g.n g.c)),(11,.val (.int .i64 g.n)),(12,.val (.int .i64 i))],cl:=[(1,[.slice g.a g.n g.c])],cj:=I }) (λi=>i<=g.n/\(g.ds.take i).all (λd=>gZ d.t)=true) (λi=>g.n-i) ?_ ?_;·exact⟨0,⟨by simp,rfl⟩,.refl,dr,.cons rfl .nil⟩
  ·rintro i⟨hi,eP⟩;refine aI.mk (λh=>?_) (λh=>?_)
   ·have aL:i<g.n:=by simpa using h
    have bi:i<g.ds.length:=by omega
    obtain⟨ad,bR,bh⟩:=ar.aU.row a'.c0 aL bi;have er:g.ds[i]∈g.ds:=cO bi;refine a6.mk ad i bR rfl aL ?_;refine aJ.mk _ (bh _) ?_;refine aT.mk [] [] _ (.refl _) (Zr br.c (ar.ds _ er).t) ?_;rintro v I' M' -⟨rfl,rfl,rfl⟩;refine aI.mk (λaa=>?_) (λaa=>?_)
    ·refine⟨_,_,.refl,?_,λ_ _ h=>h,rfl⟩;have aw:gZ g.ds[i].t=false:=by simpa using aa
     have:(g.ds.all λd=>gZ d.t)=false:=by rw[KF];exact⟨_,er,by simp[aw]⟩
     rw[this];rfl
    ·have aw:gZ g.ds[i].t=true:=by simpa using aa
     refine aQ.mk _ (bU (i:=i) (by omega)) ?_;refine⟨i+1,⟨⟨by omega,?_⟩,by omega⟩,.refl,dr,.cons rfl .nil⟩;rw[g9 bi,Dh,eP];simp[aw]
   ·have c1:g.n<=i:=by simpa using h
    rw[gv (by omega)]at eP;rw[eP];have Rq:∀ d∈g.ds,d.t.n<=1024:=λd ai=>by have:=gq.1 eP d ai;unfold gZ at this;simp only[bL,ft]at this;exact this.1
    refine aT.mk [] [] _ (.refl _) (aad br.c ar av Rq) ?_;rintro v I' M' -⟨rfl,rfl,rfl⟩;refine bo.mk (λaa=>?_) (λaa=>?_)
    ·refine aT.mk [] [] _ (.refl _) (aab br ar av Rq) ?_;rintro v dQ M' -⟨rfl,jM,rfl⟩;refine⟨_,_,.refl,?_,jM,rfl⟩;have h3:¬ 1024<mP g:=by simp at aa;omega
     simp[h3];omega
    ·refine⟨_,_,.refl,?_,λ_ _ h=>h,rfl⟩;have h3:1024<mP g:=by simp at aa;omega
     simp[h3]
def cV(name:ByteArray):List a'->Nat->Int
 |[],_=>-1| d::ds,i=>bif decide (d.name=name)then(i:Int)else cV name ds (i+1)
def drop_cons{L:List α}{k:Nat}{x:α}{rest:List α}(h:L.drop k=x::rest):∃ ae:k<L.length,L[k]=x/\L.drop (k+1)=rest:=by
 have ae:k<L.length:=by apply Nat.lt_of_not_le;intro hle;rw[hc hle]at h;cases h
 have ai:=dS ae;rw[h]at ai;obtain⟨U,aa⟩:=List.cons.inj ai;exact⟨ae,U.symm,aa.symm⟩
def rm:Nat->List a'->List (List Value)
 |_,[]=>[]| i,d::ds=>d.t.ns.map (λn=>[.int .i64 i,n.val])++rm (i+1) ds
def aaf(g:b3):Spec Tryz.prog 86 [g.val] I [] λr I' M'=>∃ b,r=.func (.func 117) #[] #[ptr b]/\I' b=some (.cells #[.slice g.a g.n g.c] 30 (0,0))/\(∀ b o,I b=some o->I' b=some o)/\M'=[]:=by refine bC [1] aS Tryz.func86 rfl rfl rfl ?_;intro B aq;refine cz.mk λg ar wE=>?_;exact⟨_,_,.pZ rfl (by simp) .refl,g,rfl,tm ..,ri ar,rfl⟩
def aag(ar:g.ok I){b:Nat}(af:I b=some (.cells #[.slice g.a g.n g.c] 30 (0,0))) :
  Iter Tryz.prog 117 [ptr b] I (rm 0 g.ds):=by
 intro l R ra to dd M0 nB jh;refine Al [] aS Tryz.func117 rfl rfl rfl ?_;intro B aq;have js:=ar.n;have ny:=ar.aU.cap;have bh:∀ (M:List aC),bE dd M ((⟨b,0,none⟩:Addr).add 0) 1 [.slice g.a g.n g.c]:=λM=>⟨rfl,_,_,_,.inl (nB _ _ af),rfl,rfl⟩;refine aJ.mk _ (bh _) ?_;refine cD.inv (ι:=Nat×Nat×aN×List aC) (λx=>{ bA:=[(0,.val (.func (.yield l) #[] #[])),(8,.val (.slice g.a g.n g.c)),(9,.val (.int .i64 g.n)),(10,.val (.int .i64 x.1))],cj:=x.2.2.1,dx:=x.2.2.2 }) (λx=>x.1<=g.n/\(∀ b o,I b=some o->x.2.2.1 b=some o)/\R x.2.1 x.2.2.1 x.2.2.2/\x.2.1<=(rm 0 g.ds).length/\(rm 0 g.ds).drop x.2.1=rm x.1 (g.ds.drop x.1)) (λx=>g.n-x.1) ?_ ?_
 ·exact⟨(0,0,dd,M0),⟨by simp,nB,jh,by simp,rfl⟩,.refl,dr,.nil⟩
 ·rintro⟨i,k,c8,M1⟩⟨hi,cn,h5,dG,fR⟩;simp only at hi cn h5 dG fR;refine aI.mk (λh=>?_) (λh=>?_)
  ·have aL:i<g.n:=by simpa using h
   have bi:i<g.ds.length:=by omega
   have jn:=ar.mono cn;obtain⟨ad,bR,Du⟩:=jn.aU.row a'.c0 aL bi;have er:g.ds[i]∈g.ds:=cO bi;have kz:=(ar.ds _ er).t.n;have aah:=(ar.ds _ er).t.aU.cap;have eR:g.ds.drop i=g.ds[i]::g.ds.drop (i+1):=dS bi;refine a6.mk ad i bR rfl aL ?_;refine aJ.mk _ (Du _) ?_;refine cD.inv (ι:=Nat×Nat×aN×List aC) (λx=>{ bA:=[(0,.val (.func (.yield l) #[] #[])),(3,.val (.int .i64 i)),(8,.val (.slice g.a g.n g.c)),(9,.val (.int .i64 g.n)),(10,.val (.int .i64 i)),(17,.val (.slice g.ds[i].t.a g.ds[i].t.n g.ds[i].t.c)),(18,.val (.int .i64 g.ds[i].t.n)),(19,.val (.int .i64 x.1))],cj:=x.2.2.1,dx:=x.2.2.2 }) (λx=>x.1<=g.ds[i].t.n/\(∀ b o,I b=some o->x.2.2.1 b=some o)/\R x.2.1 x.2.2.1 x.2.2.2/\x.2.1<=(rm 0 g.ds).length/\(rm 0 g.ds).drop x.2.1=(g.ds[i].t.ns.drop x.1).map (λn=>[.int .i64 i,n.val])++rm (i+1) (g.ds.drop (i+1))) (λx=>g.ds[i].t.n-x.1) ?_ ?_;·refine⟨(0,k,c8,M1),⟨by simp,cn,h5,dG,?_⟩,.refl,uL,.nil⟩;simp only;rw[fR,eR];rfl
   ·rintro⟨j,k,c8,M1⟩⟨al,cn,h5,dG,fR⟩;simp only at al cn h5 dG fR;refine aI.mk (λh=>?_) (λh=>?_)
    ·have dF:j<g.ds[i].t.n:=by simpa using h
     have gn:j<g.ds[i].t.ns.length:=by omega
     have jn:=ar.mono cn;obtain⟨fi,kA,hb⟩:=(jn.ds _ er).t.aU.row aP.c0 dF gn;have cf:g.ds[i].t.ns.drop j=g.ds[i].t.ns[j]::g.ds[i].t.ns.drop (j+1):=dS gn;rw[cf,dA,p7]at fR;obtain⟨ae,ah,lC⟩:=drop_cons fR;refine a6.mk fi j kA rfl dF ?_;refine aJ.mk _ (hb _) ?_;refine be.yield rfl (by simp) rfl rfl ?_;have aG:=to k ae c8 M1 cn h5;rw[ah]at aG;refine CT.mk M1 [] _ (by simp) aG ?_;rintro v dQ dt jM (⟨rfl,nu⟩ | ⟨rfl,ab⟩);·refine aI.mk (λh=>by simp at h) (λ_=>?_);refine aQ.mk _ (bU (i:=j) (by omega)) ?_;exact⟨(j+1,k+1,dQ,dt),⟨⟨by simp only;omega,λb o h=>jM b o (cn b o h),nu,ae,lC⟩,by simp only;omega⟩,.perm (by simp) .refl,uL,.nil⟩
     ·refine aI.mk (λ_=>?_) (λh=>by simp at h);exact⟨_,_,.perm (by simp) .refl,.inr ab⟩
    ·have c1:g.ds[i].t.n<=j:=by simpa using h
     rw[hc (show g.ds[i].t.ns.length<=j by omega),pi,nj]at fR;refine aQ.mk _ (bU (i:=i) (by omega)) ?_;exact⟨(i+1,k,c8,M1),⟨⟨by simp only;omega,cn,h5,dG,fR⟩,by simp only;omega⟩,.refl,dr,.nil⟩
  ·have c1:g.n<=i:=by simpa using h
   refine⟨_,_,.refl,.inl ?_⟩;rw[hc (show g.ds.length<=i by omega)]at fR;have qn:k=(rm 0 g.ds).length:=by have:=Gl.1 fR;omega
   rw[<-qn];exact h5
section
variable{X:cx}{β:Nat->Nat}{a:Act}{w:World}{F:Fr}{C:c7}{I:aN}{M:List aC}{o:Oper}{K:fG}
def cc.swap{n:Nat}{mG GY:Obj}{w':World}(h:cc X β a w F C I (⟨n,mG⟩::M))(ao:w'.heap.size=w.heap.size)(av:w'.heap[n]?=some GY)(af:∀ b,b≠n->w'.heap[b]?=w.heap[b]?)(ap:mq w w'):cc X β a w' F C I (⟨n,GY⟩::M):=by
 have U:=h.Qe ao af ap;have e':(⟨n,mG⟩:aC)∈(⟨n,mG⟩:aC)::M:=by simp
 have cf:=h.holds.bS;simp only[dA,lg]at cf;have mem:∀ x,x∈(⟨n,GY⟩:aC)::M->x=⟨n,GY⟩\/x∈M:=λx ab=>dE.1 ab;exact {
  size:=U.size
  defers:=by
   obtain⟨aU,ax,az,bc⟩:=U.defers;obtain⟨aai,f1,f2,f3⟩:=h.defers;refine⟨aU,ax,az,λr an=>{ bc r an with dY:=λx ab=>?_ }⟩;rcases mem x ab with rfl | ab
   ·have ct:aU=aai:=by
     have:=ax.symm.trans f1;have GZ:∀ l cU:List Nat,l.map uF=cU.map uF->l=cU:=by
      intro l
      induction l with
      |nil=>intro cU h;cases cU with
       |nil=>rfl| cons=>simp at h
      |cons y l a2=>intro cU h;cases cU with
       |nil=>simp at h
       |cons z cU=>
        simp only[dA,uZ,uF,Deferred.mk.injEq]at h;have aG:y=z:=by simpa using h.1
        rw[aG,a2 cU h.2]
     exact GZ _ _ this
    subst ct;exact(f3 r an).dY ⟨n,mG⟩ e'
   ·exact(bc r an).dY x ab
  holds:={
   i:=U.holds.i
   m:=λx ab=>by
    rcases mem x ab with rfl | ab;·exact av
    ·exact U.holds.m x ab
   d:=λx ab=>by
    rcases mem x ab with rfl | ab;·exact h.holds.d ⟨n,mG⟩ e'
    ·exact U.holds.d x ab
   bS:=by simpa using cf }
  aj:=h.aj
  bX:=λs cs kq=>by
   have rR:=h.bX s cs kq;refine { U.bX s cs kq with dY:=λx ab=>?_ };rcases mem x ab with rfl | ab;·exact rR.dY ⟨n,mG⟩ e'
   ·exact(U.bX s cs kq).dY x ab
  inj:=h.inj
  g3:=h.g3
  gF:=h.gF
  own:=λx ab=>by
   rcases mem x ab with rfl | ab;·exact h.own ⟨n,mG⟩ e'
   ·exact U.own x ab
  cY:=U.cY
  out:=U.out
  sz:=U.sz }
def pw(l:List (ByteArray×Int)):Nat->List MapEntry
 |i=>match l with
  |[]=>[]| p::l=>{ key:=.string p.1,val:=.int .i64 p.2,born:=i }::pw l (i+1)
def k1(l:List (ByteArray×Int)):Obj:=.map (pw l 0).toArray l.length
def hg(s:ByteArray):List (ByteArray×Int)->Option Int
 |[]=>none| p::l=>bif decide (s=p.1)then some p.2 else hg s l
def aaj(l:List (ByteArray×Int))(p:ByteArray×Int):∀ i,pw (l++[p]) i=pw l i++[{ key:=.string p.1,val:=.int .i64 p.2,born:=i+l.length }]:=by
 induction l with
 |nil=>intro i;simp[pw]| cons q l a2=>intro i;simp only[p7,pw,a2,c5,uZ,true_and,List.append_cancel_left_eq,MapEntry.mk.injEq,and_true];omega
def bytes_beq(a b:ByteArray):(a == b)=decide (a=b):=by
 rw[n5];simp only[ft];constructor
 ·intro h
  first | exact eq_of_beq h | exact oZ (eq_of_beq (a:=a.data) (b:=b.data) h)
 ·rintro rfl
  first | exact z8 _ | exact z8 a.data
def K3(s:ByteArray):∀ (l:List (ByteArray×Int)) (i j:Nat),∃ r,Instr.findNow .string (.string s) (pw l i) j=some r/\r.map (·.2)=(hg s l).map (Value.int .i64)
 |[],i,j=>⟨none,rfl,rfl⟩
 |p::l,i,j=>by
  obtain⟨r,U,aa⟩:=K3 s l (i+1) (j+1);unfold pw Instr.findNow;simp only[Instr.sameNow,bytes_beq];cases af:decide (s=p.1)with
  |true=>exact⟨_,rfl,by simp[hg,af]⟩| false=>exact⟨r,U,by simp only[hg,af,a5];exact aa⟩
def be.makeMap(aH:cB X.P X.E){t:Nat}{r:Operand}(ap:o.op=.makeMap t (some r))(ai:∀ d,o.dst=some d->d<X.n){k e:Nat}(au:X.E t=some c9)(dg:c9.bz=.map k e)
  {q:IntKind} {n:Int} (an:bm F r=.val (.int q n)) (h:∀ b,K (put o.dst (.val (.map (some b))) F) C I (⟨b,k1 []⟩::M)):be X o F C I M K:=by
 refine⟨λa w Q ⟨β,aZ⟩=>?_⟩;obtain⟨d,e3,ff⟩:=(aH _ _ au).e1;have U:d=.map k e:=by rw[dg]at ff;cases d<;>simp_all[eW]
 subst U;have K4:=cZ aZ.aj an;refine hZ (by rw[ap];simp) (v:=.map (some w.heap.size)) (w':=w.alloc (.map #[] 0)) ?_ ⟨_,_,_,_,⟨β,cc.put (x:=.val (.map (some w.heap.size))) (aZ.m7 (k1 [])) ai rfl⟩,h _⟩;unfold execOp;simp only[ap,kj,K4];simp[Instr.makeMap,run_underlying e3,asInt,ms]
def be.lookup(aH:cB X.P X.E){t:Nat}(ap:o.op=.lookup t x y true)(ai:∀ d,o.dst=some d->d<X.n){k e:Nat}(au:X.E t=some c9)(dg:c9.bz=.map k e)(ae:X.E k=some Di)(mQ:Di.bz=.string)(bd:∀ w,(zeroValue e).run X.P w=.ok (.int .i64 0) w){g:Nat}{s:ByteArray}(ab:bm F x=.val (.map (some g)))(aG:bm F y=.val (.string s))(a7:(⟨g,k1 l⟩:aC)∈M)
  (h:K (put o.dst (.val (.tuple #[.int .i64 ((hg s l).getD 0),.bool (hg s l).isSome])) F) C I M):be X o F C I M K:=by
 refine⟨λa w Q ⟨β,aZ⟩=>?_⟩;obtain⟨d,e3,ff⟩:=(aH _ _ au).e1;have U:d=.map k e:=by rw[dg]at ff;cases d<;>simp_all[eW]
 subst U;obtain⟨lD,tw,fg⟩:=(aH _ _ ae).e1;have aa:lD=.string:=by rw[mQ]at fg;cases lD<;>simp_all[eW]
 subst aa;have ar:w.heap[g]?=some (.map (pw l 0).toArray l.length):=aZ.holds.m _ a7;have ex:=cZ aZ.aj ab;have rX:=cZ aZ.aj aG;obtain⟨r,vZ,tx⟩:=K3 s l 0 0;have aA:(Instr.checkKey (pw l 0).toArray.isEmpty 10000 k (.string s)).run X.P w=.ok () w:=De (k:=.string s) tw (by simp[MapKept.IsKey]) _ 9999;have u3:(Instr.findKey k (.string s) (pw l 0)).run X.P w=.ok r w:=Df tw vZ;have fb:(Instr.lookup t (.map (some g)) (.string s) true).run X.P w=.ok (.tuple #[.int .i64 ((hg s l).getD 0),.bool (hg s l).isSome]) w:=by
  unfold Instr.lookup;simp only[bM,run_underlying e3,bx,Dd ar,cy,aA,u3];cases r with
  |none=>
   cases ay:hg s l with
   |none=>simp[bd]| some v=>rw[ay]at tx;simp at tx
  |some p=>
   cases ay:hg s l with
   |none=>rw[ay]at tx;simp at tx| some v=>rw[ay]at tx;simp only[kj,ki]at tx;simp[tx]
 refine vW aZ ai (by rw[ap];simp) ?_ h;unfold execOp;simp only[ap,ex,rX,bM,fb,bx,cy]
def be.aak(aH:cB X.P X.E){t:Nat}{z:Operand}(ap:o.op=.mapUpdate t x y z)(ai:o.dst=none){k e:Nat}(au:X.E t=some c9)(dg:c9.bz=.map k e)(ae:X.E k=some Di)(mQ:Di.bz=.string)
  {g:Nat} {s:ByteArray} {v:Int} (ab:bm F x=.val (.map (some g))) (aG:bm F y=.val (.string s)) (x1:bm F z=.val (.int .i64 v)) (ay:hg s l=none)
  {Mr:List aC} (a7:M.Perm (⟨g,k1 l⟩::Mr)) (h:K F C I (⟨g,k1 (l++[(s,v)])⟩::Mr)):be X o F C I M K:=by
 refine⟨λa w Q ⟨β,jh⟩=>?_⟩;have aZ:cc X β a w F C I (⟨g,k1 l⟩::Mr):=jh.hA (.perm a7 .refl);obtain⟨d,e3,ff⟩:=(aH _ _ au).e1;have U:d=.map k e:=by rw[dg]at ff;cases d<;>simp_all[eW]
 subst U;obtain⟨lD,tw,fg⟩:=(aH _ _ ae).e1;have aa:lD=.string:=by rw[mQ]at fg;cases lD<;>simp_all[eW]
 subst aa;have ar:w.heap[g]?=some (.map (pw l 0).toArray l.length):=aZ.holds.m ⟨g,k1 l⟩ (by simp);have ex:=cZ aZ.aj ab;have rX:=cZ aZ.aj aG;have K5:=cZ aZ.aj x1;obtain⟨r,vZ,tx⟩:=K3 s l 0 0;have an:r=none:=by
  rw[ay]at tx;cases r with
  |none=>rfl| some _=>simp at tx
 subst an;have aA:(Instr.checkKey false 10000 k (.string s)).run X.P w=.ok () w:=De (k:=.string s) tw (by simp[MapKept.IsKey]) _ 9999;have u3:(Instr.findKey k (.string s) (pw l 0)).run X.P w=.ok none w:=Df tw vZ;have fO:k1 (l++[(s,v)])=.map ((pw l 0).toArray.push { key:=.string s,val:=.int .i64 v,born:=l.length }) (l.length+1):=by unfold k1;rw[aaj];simp
 have fb:(Instr.mapUpdate t (.map (some g)) (.string s) (.int .i64 v)).run X.P w=.ok () { w with heap:=w.heap.setIfInBounds g (k1 (l++[(s,v)])) }:=by unfold Instr.mapUpdate;simp only[bM,run_underlying e3,bx,Dd ar,aA,u3,KE _ ar,fO]
 have lU:=MapKept.heap_set (o':=k1 (l++[(s,v)])) ar;refine Aa (by rw[ap];simp) (w':={ w with heap:=w.heap.setIfInBounds g (k1 (l++[(s,v)])) }) ?_ ⟨F,C,I,_,⟨β,?_⟩,h⟩
 ·unfold execOp;simp only[ap,ex,rX,K5,bM,fb,bx,cy]
 ·rw[ai];exact aZ.swap (by simp) lU.1 lU.2 ⟨rfl,rfl⟩
end
def px:Nat->List a'->List (Nat×aP)
 |_,[]=>[]| i,d::ds=>d.t.ns.map (λn=>(i,n))++px (i+1) ds
def Dv:∀ (ds:List a') (i:Nat),rm i ds=(px i ds).map λp=>[.int .i64 p.1,p.2.val]
 |[],i=>rfl| d::ds,i=>by simp only[rm,px,gg,oq,Dv ds (i+1)];rfl
def nG(ds:List a'):Bool:=ds.all λd=>gI d.name&&normal d.t
def lE:List (ByteArray×Int)->Nat->List a'->Option (List (ByteArray×Int))
 |acc,_,[]=>some acc| acc,i,d::ds=>bif (hg d.name acc).isSome then none else lE (acc++[(d.name,(i:Int))]) (i+1) ds
def wO(acc:List (ByteArray×Int))(n:aP):Bool:=!decide (n.k=3)||(hg n.t acc).isSome
def qv(acc:List (ByteArray×Int))(ds:List a'):Bool:=(px 0 ds).all λp=>wO acc p.2
def ed(deb:List Int)(g:b3):Int:=
 bif decide ((g.n:Int)=0)then 4 else bif !nG g.ds then 4 else bif h8 deb g then 40 else
 match lE [] 0 g.ds with
 |none=>6| some acc=>bif qv acc g.ds then 0 else 41
def r'(b:Nat)(e:Int):aC:=⟨b,.cells #[.int .i64 e] 32 (0,0)⟩
def yI{b:Nat}{e:Int}(h:r' b e∈M):bE I M ⟨b,0,none⟩ 1 [.int .i64 e]:=
 ⟨rfl,_,_,_,.inr ⟨_,h,rfl,rfl⟩,rfl,rfl⟩
def Rr(w:World):(zeroValue 3).run Tryz.prog w=.ok (.int .i64 0) w:=by
 have h:(Tryz.prog.info? 3).map (λi=>i.zero)=some (some (.int .i64 0)):=by kernel_rfl
 obtain⟨i,U,aa⟩:=sU.1 h;simp[zeroValue,typeInfo,U,aa]
def K6(br:hG I deb)(ar:g.ok I):Spec Tryz.prog 49 [g.val] I [] (λv I' M'=>v=.int .i64 (ed deb g)/\(∀ b o,I b=some o->I' b=some o)/\M'=[]):=by
 refine bC [2,5] aS Tryz.func49 rfl rfl rfl ?_;intro B aq;have js:=ar.n;have ny:=ar.aU.cap;refine cz.mk λb2 m8 ak7=>?_;refine aI.mk (λU=>?_) (λU=>?_)
 ·refine cX.mk [] [] _ _ rfl rfl (bB rfl) rfl ?_;refine aJ.mk _ (yI (b:=b2) (e:=4) (.head _)) ?_;refine⟨_,_,.sub (dJ _) .refl,?_,λ_ _ h=>h,rfl⟩;rw[ed,U];rfl
 ·have n':g.n≠0:=by simp at U;omega
  refine cD.inv (ι:=Nat) (λi=>{ bA:=[(1,.ref 1 0),(2,.val (ptr b2)),(19,.val (.slice g.a g.n g.c)),(20,.val (.int .i64 g.n)),(21,.val (.int .i64 i))],cl:=[(1,[.slice g.a g.n g.c])],cj:=I,dx:=[r' b2 0] }) (λi=>i<=g.n/\nG (g.ds.take i)=true) (λi=>g.n-i) ?_ ?_;·exact⟨0,⟨by simp,rfl⟩,.refl,kQ,.cons rfl .nil⟩
  ·rintro i⟨hi,eP⟩;refine aI.mk (λh=>?_) (λh=>?_)
   ·have aL:i<g.n:=by simpa using h
    have bi:i<g.ds.length:=by omega
    obtain⟨ad,bR,bh⟩:=ar.aU.row a'.c0 aL bi;have er:g.ds[i]∈g.ds:=cO bi;have bad:(gI g.ds[i].name&&normal g.ds[i].t)=false->ed deb g=4:=λaf=>by
     have:nG g.ds=false:=by unfold nG;rw[KF];exact⟨_,er,by simp[af]⟩
     rw[ed,U,this];rfl
    refine a6.mk ad i bR rfl aL ?_;refine aJ.mk _ (bh _) ?_;refine aT.mk [] [r' b2 0] _ (.refl _) (Ks _ g.ds[i].name) ?_;rintro v I' M' -⟨rfl,rfl,rfl⟩;refine bo.mk (λaa=>?_) (λaa=>?_)
    ·have hm:gI g.ds[i].name=true:=by simpa using aa
     refine aT.mk [] [r' b2 0] _ (.refl _) (aac br.c (ar.ds _ er).t) ?_;rintro v I' M' -⟨rfl,rfl,rfl⟩;refine aI.mk (λag=>?_) (λag=>?_)
     ·have eO:normal g.ds[i].t=false:=by simpa using ag
      refine cX.mk [] [] _ _ rfl rfl (bB rfl) rfl ?_;refine aJ.mk _ (yI (b:=b2) (e:=4) (.head _)) ?_;refine⟨_,_,.sub (dJ _) .refl,?_,λ_ _ h=>h,rfl⟩;rw[bad (by rw[hm,eO];rfl)];rfl
     ·have eO:normal g.ds[i].t=true:=by simpa using ag
      refine aQ.mk _ (bU (i:=i) (by omega)) ?_;refine⟨i+1,⟨⟨by omega,?_⟩,by omega⟩,.refl,kQ,.cons rfl .nil⟩;unfold nG at eP |-;rw[g9 bi,Dh,eP];simp[hm,eO]
    ·have hm:gI g.ds[i].name=false:=by simpa using aa
     refine cX.mk [] [] _ _ rfl rfl (bB rfl) rfl ?_;refine aJ.mk _ (yI (b:=b2) (e:=4) (.head _)) ?_;refine⟨_,_,.sub (dJ _) .refl,?_,λ_ _ h=>h,rfl⟩;rw[bad (by rw[hm];rfl)];rfl
   ·have c1:g.n<=i:=by simpa using h
    rw[gv (by omega)]at eP;refine aT.mk [] [r' b2 0] _ (.refl _) (aae br ar) ?_;rintro v c8 M' -⟨rfl,cn,rfl⟩;refine aI.mk (λaa=>?_) (λaa=>?_);·refine cX.mk [] [] _ _ rfl rfl (bB rfl) rfl ?_;refine aJ.mk _ (yI (b:=b2) (e:=40) (.head _)) ?_;refine⟨_,_,.sub (dJ _) .refl,?_,cn,rfl⟩;rw[ed,U,eP,aa];rfl
    ·have hI:ed deb g=match lE [] 0 g.ds with
       |none=>6| some acc=>bif qv acc g.ds then 0 else 41:=by
      rw[ed,U,eP,aa];rfl
     rw[hI];have jn:=ar.mono cn;refine be.makeMap aS rfl (by simp) rfl rfl rfl λj4=>?_;refine cz.mk λh9 K7 ak8=>?_;refine cX.mk [] [⟨j4,k1 []⟩,r' b2 0] _ _ rfl rfl (bB rfl) rfl ?_;refine cD.inv (ι:=Nat×List (ByteArray×Int)) (λx=>{ bA:=[(1,.ref 1 0),(2,.val (ptr b2)),(5,.val (ptr h9)),(43,.val (.slice g.a g.n g.c)),(44,.val (.int .i64 g.n)),(45,.val (.int .i64 x.1))],cl:=[(1,[.slice g.a g.n g.c])],cj:=c8,dx:=[⟨h9,.cells #[.map (some j4)] 142 (0,0)⟩,⟨j4,k1 x.2⟩,r' b2 0] }) (λx=>x.1<=g.n/\lE [] 0 g.ds=lE x.2 x.1 (g.ds.drop x.1)) (λx=>g.n-x.1) ?_ ?_;·exact⟨(0,[]),⟨by simp,rfl⟩,.refl,nb,.cons rfl .nil⟩
     ·rintro⟨i,acc⟩⟨hi,oi⟩;simp only at hi oi;refine aI.mk (λh=>?_) (λh=>?_)
      ·have aL:i<g.n:=by simpa using h
       have bi:i<g.ds.length:=by omega
       obtain⟨ad,bR,bh⟩:=jn.aU.row a'.c0 aL bi;have eR:g.ds.drop i=g.ds[i]::g.ds.drop (i+1):=dS bi;refine a6.mk ad i bR rfl aL ?_;refine aJ.mk _ (bh _) ?_;refine aJ.mk [.map (some j4)] ⟨rfl,_,_,_,.inr ⟨_,.head _,rfl,rfl⟩,rfl,rfl⟩ ?_;refine be.lookup aS rfl (by simp) rfl rfl rfl rfl (λw=>Rr w) (l:=acc) (g:=j4) rfl rfl (by simp) ?_;refine aI.mk (λag=>?_) (λag=>?_);·refine cX.mk [⟨h9,.cells #[.map (some j4)] 142 (0,0)⟩,⟨j4,k1 acc⟩] [] _ _ rfl rfl (bB rfl) rfl ?_;refine aJ.mk _ (yI (b:=b2) (e:=6) (.tail _ (.tail _ (.head _)))) ?_;refine⟨_,_,.sub (dJ _) .refl,?_,cn,rfl⟩;rw[oi,eR,lE,ag];rfl
       ·have ay:hg g.ds[i].name acc=none:=by simpa using ag
        refine aJ.mk [.map (some j4)] ⟨rfl,_,_,_,.inr ⟨_,.head _,rfl,rfl⟩,rfl,rfl⟩ ?_;refine be.aak aS rfl rfl rfl rfl rfl rfl rfl rfl rfl ay (Mr:=[⟨h9,.cells #[.map (some j4)] 142 (0,0)⟩,r' b2 0]) (List.Perm.swap _ _ _) ?_;refine aQ.mk _ (bU (i:=i) (by omega)) ?_;refine⟨(i+1,acc++[(g.ds[i].name,(i:Int))]),⟨⟨by simp only;omega,?_⟩,by simp only;omega⟩,.perm (List.Perm.swap _ _ _) .refl,nb,.cons rfl .nil⟩;simp only;rw[oi,eR,lE,ag];rfl
      ·have K8:g.n<=i:=by simpa using h
       have ff:lE [] 0 g.ds=some acc:=by rw[oi,hc (by omega),lE]
       rw[ff];refine aT.mk [] [⟨h9,.cells #[.map (some j4)] 142 (0,0)⟩,⟨j4,k1 acc⟩,r' b2 0] _ (.refl _) (aaf g) ?_;rintro v dQ dt -⟨ca,rfl,yJ,jM,rfl⟩;have l1:=jn.mono jM;have Rs:∀ b o,I b=some o->dQ b=some o:=λb o h=>jM _ _ (cn _ _ h);refine cL.range aS rfl rfl rfl .refl (aag l1 yJ) (λvs h=>?_) (λk I' M'=>(∀ b o,dQ b=some o->I' b=some o)/\((px 0 g.ds).take k).all (λp=>wO acc p.2)=true/\M'=[⟨h9,.cells #[.map (some j4)] 142 (0,0)⟩,⟨j4,k1 acc⟩,r' b2 0]) (λex I' M'=>ex=.ret/\(∀ b o,dQ b=some o->I' b=some o)/\qv acc g.ds=false/\M'=[⟨h9,.cells #[.map (some j4)] 142 (0,0)⟩,⟨j4,k1 acc⟩,r' b2 41]) ⟨λ_ _ h=>h,rfl,rfl⟩ ?_ ?_ ?_;·rw[Dv]at h;obtain⟨p,_,rfl⟩:=du.1 h;rfl
       ·rintro k ae I' M' -⟨iB,bb,rfl⟩l B aq kr;have Rt:k<(px 0 g.ds).length:=by simpa[Dv]using ae
        generalize aO:(px 0 g.ds)[k]=p;have ah:(rm 0 g.ds)[k]=[.int .i64 p.1,p.2.val]:=by simp only[Dv,jJ,aO]
        rw[ah];have next:wO acc p.2=true->((px 0 g.ds).take (k+1)).all (λp=>wO acc p.2)=true:=λh=>by rw[g9 Rt,Dh,bb,aO];simp[h]
        refine aI.mk (λag=>?_) (λag=>?_)
        ·refine⟨_,_,.refl,iB,next ?_,rfl⟩;have l6:decide (p.2.k=3)=false:=by simpa using ag
         simp[wO,l6]
        ·have l6:decide (p.2.k=3)=true:=by simpa using ag
         refine aJ.mk [.map (some j4)] ⟨rfl,_,_,_,.inr ⟨_,.head _,rfl,rfl⟩,rfl,rfl⟩ ?_;refine be.lookup aS rfl (by simp) rfl rfl rfl rfl (λw=>Rr w) (l:=acc) (g:=j4) rfl rfl (by simp) ?_;refine aI.mk (λaK=>?_) (λaK=>?_)
         ·refine cX.mk [⟨h9,.cells #[.map (some j4)] 142 (0,0)⟩,⟨j4,k1 acc⟩] [] _ _ rfl rfl (bB rfl) rfl ?_;refine⟨_,_,.refl,rfl,iB,?_,rfl⟩;unfold qv;rw[KF];have K9:(hg p.2.t acc).isSome=false:=by simpa using aK
          exact⟨p,by rw[<-aO];exact cO Rt,by simp[wO,l6,K9]⟩
         ·have K9:(hg p.2.t acc).isSome=true:=by simpa using aK
          exact⟨_,_,.refl,iB,next (by simp[wO,K9]),rfl⟩
       ·rintro I' M' -⟨iB,bb,rfl⟩;have K':qv acc g.ds=true:=by unfold qv;rw[gv (by simp[Dv])]at bb;exact bb
        refine cX.mk [⟨h9,.cells #[.map (some j4)] 142 (0,0)⟩,⟨j4,k1 acc⟩] [] _ _ rfl rfl (bB rfl) rfl ?_;refine aJ.mk _ (yI (b:=b2) (e:=0) (.tail _ (.tail _ (.head _)))) ?_;refine⟨_,_,.sub (dJ _) .refl,?_,λb o h=>iB _ _ (Rs _ _ h),rfl⟩;simp only[K'];rfl
       ·rintro ex I' M' -⟨rfl,iB,K',rfl⟩;refine⟨by simp,?_⟩;refine aJ.mk _ (yI (b:=b2) (e:=41) (.tail _ (.tail _ (.head _)))) ?_;refine⟨_,_,.sub (dJ _) .refl,?_,λb o h=>iB _ _ (Rs _ _ h),rfl⟩;simp only[K'];rfl
structure tz where
 a:Option Addr
 n:Nat
 c:Nat
 l:List Int
def tz.val(r:tz):Value:=.slice r.a r.n r.c
structure tz.ok(I:aN)(r:tz):Prop where
 aU:dW I r.a r.n r.c 1 8 (r.l.map (.int .i64 ·))
def tz.ok.n{r:tz}(h:r.ok I):r.l.length=r.n:=by have:=h.aU.len;simpa using this
def tz.ok.mono{r:tz}(h:r.ok I)(a9:∀ b o,I b=some o->I' b=some o):r.ok I':=⟨h.aU.mono a9⟩
structure wP where
 rows:List tz
 a:Option Addr
 n:Nat
 c:Nat
def wP.val(x:wP):Value:=.slice x.a x.n x.c
structure wP.ok(I:aN)(x:wP):Prop where
 aU:dW I x.a x.n x.c 1 24 (x.rows.map tz.val)
 rows:∀ r∈x.rows,r.ok I
def wP.ok.n{x:wP}(h:x.ok I):x.rows.length=x.n:=by have:=h.aU.len;simpa using this
def wP.ok.mono{x:wP}(h:x.ok I)(a9:∀ b o,I b=some o->I' b=some o):x.ok I':=⟨h.aU.mono a9,λr an=>(h.rows r an).mono a9⟩
def sb:bn:=⟨none,0,0,[]⟩
def wQ(size:Nat):sb.ok size []:=⟨by simp[sb],λ_=>⟨rfl,rfl⟩,λg h=>by cases h⟩
def Ru{os:bn}{xs:List Value}(dN:os.ok 1 xs){g:Nat}{cur:List Value}(U:cur.length=c*1)(aa:os.n+1<=c)(ag:c<=maxLen)(aK:cur.take ((os.n+1)*1)=xs++[v]) :
  bn.ok ⟨some g,os.n+1,c,cur⟩ 1 (xs++[v]):=by
 have ay:=dN.len;refine⟨?_,(λh=>by cases h),λbl nE=>⟨U,aa,ag,aK⟩⟩;rw[ck,ay];simp
structure tA where
 a:Option Addr
 n:Nat
 c:Nat
 l:List Bool
def tA.val(r:tA):Value:=.slice r.a r.n r.c
structure tA.ok(I:aN)(r:tA):Prop where
 aU:dW I r.a r.n r.c 1 1 (r.l.map Value.bool)
def tA.ok.n{r:tA}(h:r.ok I):r.l.length=r.n:=by have:=h.aU.len;simpa using this
def tA.ok.mono{r:tA}(h:r.ok I)(a9:∀ b o,I b=some o->I' b=some o):r.ok I':=⟨h.aU.mono a9⟩
def ox(m:List Bool)(k:Nat):Prop:=m.getD k false=true
def tB(m:List Bool)(o:List Int):List Int->List Bool×List Int
 |[]=>(m,o)| k::ks=>bif m.getD k.toNat false then tB m o ks else tB (m.set k.toNat true) (o++[k]) ks
def u4:List Bool->Nat
 |[]=>0| b::s=>(bif b then 0 else 1)+u4 s
def Rv:∀ (m:List Bool) (k:Nat),k<m.length->m.getD k false=false->u4 (m.set k true)+1=u4 m
 |b::m,0,_,h=>by
  have:b=false:=by simpa using h
  subst this;simp[u4];omega
 |b::m,k+1,ae,h=>by have:=Rv m k (by simpa using ae) (by simpa using h);simp only[List.set_cons_succ,u4];omega
def La{k a:Nat}(ae:k<m.length):ox (m.set k true) a ↔ a=k\/ox m a:=by
 unfold ox;simp only[cQ,mC];by_cases e:k=a
 ·subst e;simp[ae]
 ·rw[dc e];constructor
  ·exact .inr
  ·rintro(h | h)
   ·exact(e h.symm).elim
   ·exact h
def valid(n:Nat)(l:List Int):Prop:=∀ k∈l,0<=k/\k<n
structure aal(m:List Bool)(o ks:List Int)(r:List Bool×List Int):Prop where
 len:r.1.length=m.length
 mono:∀ a,ox m a->ox r.1 a
 all:∀ k∈ks,ox r.1 k.toNat
 only:∀ a,ox r.1 a->ox m a\/((a:Int)∈ks/\(a:Int)∈r.2)
 mw:∀ k∈o,k∈r.2
 news:∀ k∈r.2,k∈o\/(k∈ks/\ox r.1 k.toNat)
 GP:2*u4 r.1+r.2.length<=2*u4 m+o.length
def Lb{n:Nat}:∀ (ks:List Int) (m:List Bool) (o:List Int),m.length=n->valid n ks->aal m o ks (tB m o ks)
 |[],m,o,_,_=>⟨rfl,λ_ h=>h,λk ae=>by simp at ae,λa h=>.inl h,λk h=>h,λk h=>.inl h,b6 _⟩
 |k::ks,m,o,hm,ah=>by
  have ae:=ah k (by simp);have kO:valid n ks:=λx ab=>ah x (by simp[ab]);have dG:k.toNat<m.length:=by omega
  unfold tB;cases af:m.getD k.toNat false with
  |true=>
   have h:=Lb ks m o hm kO;simp only[ba];refine⟨h.len,h.mono,λx ab=>?_,λa aD=>?_,h.mw,λx ab=>?_,h.GP⟩
   ·rcases dE.1 ab with rfl | ab
    ·exact h.mono _ af
    ·exact h.all x ab
   ·rcases h.only a aD with U | U
    ·exact .inl U
    ·exact .inr ⟨by simp[U.1],U.2⟩
   ·rcases h.news x ab with U | U
    ·exact .inl U
    ·exact .inr ⟨by simp[U.1],U.2⟩
  |false=>
   have h:=Lb ks (m.set k.toNat true) (o++[k]) (by simpa using hm) kO;have ao:=Rv m k.toNat dG af;have Rw:ox (tB (m.set k.toNat true) (o++[k]) ks).1 k.toNat:=h.mono _ ((La dG).2 (.inl rfl));have aam:k∈(tB (m.set k.toNat true) (o++[k]) ks).2:=h.mw k (by simp);simp only[a5];refine⟨by rw[h.len];simp,λa aD=>h.mono a ((La dG).2 (.inr aD)),λx ab=>?_,λa aD=>?_,λx ab=>h.mw x (by simp[ab]),λx ab=>?_,?_⟩
   ·rcases dE.1 ab with rfl | ab
    ·exact Rw
    ·exact h.all x ab
   ·rcases h.only a aD with U | U
    ·rcases(La dG).1 U with rfl | U
     ·have e:((k.toNat:Nat):Int)=k:=by omega
      rw[e];exact .inr ⟨by simp,aam⟩
     ·exact .inl U
    ·exact .inr ⟨by simp[U.1],U.2⟩
   ·rcases h.news x ab with U | U
    ·simp only[en,kh]at U;rcases U with U | rfl
     ·exact .inl U
     ·exact .inr ⟨by simp,Rw⟩
    ·exact .inr ⟨by simp[U.1],U.2⟩
   ·have:=h.GP;simp only[ck,c5,eY]at this;omega
inductive Comes(L:List (List Int))(i:Nat):Nat->Prop
 |self:Comes L i i| next {a k:Nat} (h:Comes L i a) (ae:(k:Int)∈L.getD a []):Comes L i k
structure Lc(L:List (List Int))(i:Nat)(m:List Bool)(o:List Int):Prop where
 len:m.length=L.length
 val:valid L.length o
 Rx:∀ k∈o,ox m k.toNat
 cl:∀ a,ox m a->(a:Int)∈o\/∀ k∈L.getD a [],ox m k.toNat
 Ry:∀ a,ox m a->Comes L i a
 self:ox m i
def Lc.step(b1:∀ l∈L,valid L.length l){o:List Int}{w:Int}(h:Lc L i m (o++[w])) :
  Lc L i (tB m o (L.getD w.toNat [])).1 (tB m o (L.getD w.toNat [])).2/\2*u4 (tB m o (L.getD w.toNat [])).1+(tB m o (L.getD w.toNat [])).2.length<2*u4 m+(o++[w]).length:=by
 have hw:=h.val w (by simp);have nH:w.toNat<L.length:=by omega
 have aan:L.getD w.toNat []=L[w.toNat]:=by simp[cQ,nH]
 have ah:valid L.length (L.getD w.toNat []):=by rw[aan];exact b1 _ (cO nH)
 have v:=Lb (L.getD w.toNat []) m o h.len ah;have C8:=h.Rx w (by simp);have aao:=h.Ry _ C8;refine⟨⟨v.len.trans h.len,λk ae=>?_,λk ae=>?_,λa aD=>?_,λa aD=>?_,v.mono _ h.self⟩,?_⟩
 ·rcases v.news k ae with U | U
  ·exact h.val k (by simp[U])
  ·exact ah k U.1
 ·rcases v.news k ae with U | U
  ·exact v.mono _ (h.Rx k (by simp[U]))
  ·exact U.2
 ·rcases v.only a aD with U | U
  ·rcases h.cl a U with aa | aa
   ·simp only[en,kh]at aa;rcases aa with aa | aa
    ·exact .inl (v.mw _ aa)
    ·have e:a=w.toNat:=by omega
     subst e;exact .inr v.all
   ·exact .inr λk ae=>v.mono _ (aa k ae)
  ·exact .inl U.2
 ·rcases v.only a aD with U | U
  ·exact h.Ry a U
  ·exact .next aao U.1
 ·have:=v.GP;simp only[ck,c5,eY];omega
def Rz{pre post:List Value}{z:Value}{k:Nat}(ae:k=pre.length):bw (pre++z::post) k [v]=pre++v::post:=by
 subst ae;unfold bw;have e:(pre++z::post).drop (pre.length+[v].length)=post:=by rw[show pre++z::post=(pre++[z])++post from by simp];exact J7 (by simp)
 rw[e,q' rfl];simp
def RA(R:List (List Bool))(i k:Nat):Bool:=(R.getD i []).getD k false
def Ld(R:List (List Bool))(i k:Nat):Prop:=RA R i k=true/\RA R k i=true
def Ld.symm{R:List (List Bool)}{j:Nat}(h:Ld R i j):Ld R j i:=⟨h.2,h.1⟩
def Comes.trans{j k:Nat}(U:Comes L i j)(aa:Comes L j k):Comes L i k:=by
 induction aa with
 |self=>exact U| next _ ae a2=>exact .next a2 ae
structure AH where
 rows:List tA
 a:Option Addr
 n:Nat
 c:Nat
def AH.val(x:AH):Value:=.slice x.a x.n x.c
structure AH.ok(I:aN)(x:AH):Prop where
 aU:dW I x.a x.n x.c 1 24 (x.rows.map tA.val)
 rows:∀ r∈x.rows,r.ok I
def AH.ok.mono{x:AH}(h:x.ok I)(a9:∀ b o,I b=some o->I' b=some o):x.ok I':=⟨h.aU.mono a9,λr an=>(h.rows r an).mono a9⟩
def py(W:World):aN:=λb=>W.heap[b]?
def aap(W:World):dU (py W) [] W:=⟨λb o h=>h,(λx ab=>by cases ab),(λx ab=>by cases ab),xP⟩
structure yK(W jo:World):Prop where
 cY:∀ b,b<W.heap.size->jo.heap[b]?=W.heap[b]?
 sz:W.heap.size<=jo.heap.size
 out:mq W jo
def aaq{P:Program}{f:Nat}{args:List Value}{post:Value->aN->List aC->Prop}(h:uD P f args (py W) [] post) :
  Calls P f args.toArray W λe jo=>∃ v,e=.returned v/\(∃ I' M',post v I' M')/\yK W jo:=by
 refine(h.2 W (aap W)).mono ?_;rintro e jo⟨v,I',M',rfl,aO,_,fl⟩;exact⟨v,rfl,⟨I',M',aO⟩,λb af=>fl.cY b af (λy aG=>by cases aG),fl.sz,fl.out⟩
def yK.kept(h:yK W jo)(may:MemPlace->Prop):W.keptBut jo may:=by
 refine⟨h.out.1,h.out.2,λi hi=>?_⟩;rw[h.cY i hi];cases W.heap[i]? with
 |none=>rfl| some o=>cases o<;>simp
def yK.frozen(h:yK W jo){a:Addr}(aD:a.block<W.heap.size):jo.frozen? a=W.frozen? a:=by unfold World.frozen?;rw[h.cY _ aD]
variable{H:Type}{enc:TypeId×Value->H}{P:Program}
def aar{f:Func}{s:ChangeSpec}{apart fresh handsOn again:Bool}{args:Array Value}{ds gs:List (DataW H)}{before pa pv:List MemPlace}(gV:DataW.Whole enc P f.params.toList s.vars apart W args.toList ds gs before)(Dw:∀ (b:Nat) (dO:Nat->Bool) (ai:Bool),DataW.TrodAll enc P jo b dO ai f.resultTypes.toList (v.resultList f.resultTypes.size) (s.fn H (ds++gs)).results [])(kB:∀ dO:Nat->Bool,(∀ p∈before,dO p.block=true)->DataW.TrodAll enc P jo 0 dO true f.params.toList args.toList (s.fn H (ds++gs)).args pa)(RB:∀ dO:Nat->Bool,(∀ p∈before,dO p.block=true)->DataW.TrodVars enc P jo dO s.vars (s.fn H (ds++gs)).vars pv)(rn:before=pa++pv)(ae:yK W jo)(bb:∀ (j:Nat) (t:TypeId) (r:Value),f.resultTypes[j]?=some t->(v.resultList f.resultTypes.size)[j]?=some r->Value.okWide P jo .any 0 t r) :
  s.post enc P f apart fresh handsOn again W args v jo:=by
 have hold:∀ p∈before,(λb=>decide (b<W.heap.size)) p.block=true:=λp aO=>by simpa using gV.lt p aO
 have aL:∀ p∈before,p.block<W.heap.size:=λp aO=>gV.lt p aO;refine⟨ds,gs,before,[],pa,pv,gV,Dw _ _ _,kB _ hold,RB _ hold,World.keptBut_mono (λp aO=>⟨aO,?_⟩) (ae.kept (·∈before)),λ_=>?_⟩
 ·rw[rn,en]at aO;exact Or.inr aO
 ·obtain⟨_,_,_,_,_,bd,av⟩:=gV;refine⟨bb,_,_,([]++pa)++pv,⟨[]++pa,pv,ChangeShapes.trodAll_append (kB _ (λ_ _=>rfl)) (Dw _ _ _),RB _ (λ_ _=>rfl),rfl,?_,?_⟩,?_⟩
  ·intro b off aO;have G0:MemPlace.cell b off∈before:=by rw[rn];simpa using aO
   rw[ae.frozen (a:=⟨b,off,none⟩) (aL _ G0)];exact bd b off G0
  ·intro aD;have:=av aD;rw[rn]at this;simpa using this
  ·intro p aO _;rw[rn];simpa using aO
def u5:DataW H->Option Value
 | .lit (.int k z)=>some (.int k z)| .lit (.string l)=>some (.string ⟨l.toArray⟩)| .lit (.bool b)=>some (.bool b)| _=>none
def Dx(P:Program)(e:TypeId):Bool:=match P.underlying e with
 |some .bool | some (.int _) | some .string=>true| _=>false
section
variable{w:World}{base:Nat}{dO:Nat->Bool}{held:Bool}{de:Nat}{t e:TypeId}{cs:List Value}{d:DataW H}{p:List MemPlace}
def RC(he:Dx P e=true)(h:DataW.trod enc P w base dO held de e cs=some (d,p))(ah:u5 d=some v):cs=[v]:=by
 unfold Dx at he;split at he
 ·rename_i hu;obtain⟨b,rfl,ab⟩:=DataW.trod_bool hu h;cases ab;simpa[u5]using ah
 ·rename_i k hu;obtain⟨n,rfl,ab,_⟩:=DataW.trod_int hu h;cases ab;simpa[u5]using ah
 ·rename_i hu;obtain⟨s,rfl,ab,_⟩:=GI hu h;cases ab;simpa[u5]using ah
 ·cases he
def G1{α β:Type}{f:α->Option β}:∀ {l:List α} {r:List β},l.mapM f=some r->r.length=l.length/\∀ i (h:i<l.length) (a1:i<r.length),f l[i]=some r[i]
 |[],r,h=>by simp at h;subst h;exact⟨rfl,λi h=>by simp at h⟩
 |x::l,r,h=>by
  simp only[Cg,Option.bind_eq_bind,Jo,Option.pure_def,ki]at h;obtain⟨b,af,pb,fH,rfl⟩:=h;obtain⟨U,aa⟩:=G1 fH;refine⟨by simp[U],λi hi cT=>?_⟩;cases i with
  |zero=>simpa using af| succ i=>simpa using aa i (by simpa using hi) (by simpa using cT)
def RD(ay:cs.length=vs.length)(h:∀ i (hi:i<vs.length),(cs.drop i).take 1=[vs[i]]):cs=vs:=by apply wi ay;intro i U aa;have:=h i aa;rw[dS U,oe,p8]at this;simpa using this
def RE{n:Nat}(au:P.underlying t=some (.array n e))(he:Dx P e=true)(Dy:P.cellsOf e=1)(iC:P.cellsOf t=n){ds:List (DataW H)}(h:DataW.trod enc P w base dO held de t cs=some (.agg ds,p))(ah:ds.mapM u5=some vs):cs=vs:=by
 obtain⟨xs,m,rfl,ab,ay,lx,hi⟩:=KH au h;have k2:ds=xs.map (·.1):=by have:=congrArg Prod.fst ab;simpa using this
 obtain⟨aR,aV⟩:=G1 ah;have qw:vs.length=n:=by rw[aR,k2];simpa using lx
 refine RD (by rw[ay,iC,qw]) λi cT=>?_;have U:=hi i (by omega);rw[Dy,hD]at U;have sc:i<xs.length:=by omega
 rw[gu sc]at U;have aa:=aV i (by rw[k2];simpa using sc) cT;have ag:ds[i]'(by rw[k2];simpa using sc)=xs[i].1:=by simp[k2]
 rw[ag]at aa;exact RC he (d:=xs[i].1) (p:=xs[i].2) U aa
def aas(au:P.underlying t=some (.struct bT))(aw:∀ (i:Nat) (f:Field),bT[i]?=some f->Dx P f.type=true/\f.offset=i/\P.cellsOf f.type=1)(iC:P.cellsOf t=bT.size){ds:List (DataW H)}(h:DataW.trod enc P w base dO held de t cs=some (.agg ds,p))(ah:ds.mapM u5=some vs):cs=vs:=by
 obtain⟨xs,m,rfl,ab,ay,lx,hi⟩:=DataW.trod_struct au h;have k2:ds=xs.map (·.1):=by have:=congrArg Prod.fst ab;simpa using this
 obtain⟨aR,aV⟩:=G1 ah;have qw:vs.length=bT.size:=by rw[aR,k2];simpa using lx
 refine RD (by rw[ay,iC,qw]) λi cT=>?_;have RF:i<bT.size:=by omega
 obtain⟨cM,cp,eD⟩:=aw i bT[i] (B' RF);have U:=hi i bT[i] (B' RF);rw[cp,eD]at U;have sc:i<xs.length:=by omega
 rw[gu sc]at U;have aa:=aV i (by rw[k2];simpa using sc) cT;have ag:ds[i]'(by rw[k2];simpa using sc)=xs[i].1:=by simp[k2]
 rw[ag]at aa;exact RC cM (d:=xs[i].1) (p:=xs[i].2) U aa
def RG{sz:Nat}:∀ (rows:List (List Value)) (cs:List Value),cs.length=rows.length*sz->(∀ i (hi:i<rows.length),(cs.drop (i*sz)).take sz=rows[i])->cs=rows.flatten
 |[],cs,ay,_=>lV (by simpa using ay)
 |r::rows,cs,ay,h=>by
  have aq:=h 0 (by simp);simp only[At,td,x']at aq;rw[c5,jg,nm]at ay;have a2:=RG (sz:=sz) rows (cs.drop sz) (by rw[wh];omega) λi hi=>by have:=h (i+1) (by simpa using hi);rw[yd,show sz+i*sz=(i+1)*sz from by rw[jg];omega];simpa using this
  rw[KG,<-a2,<-aq,uR]
def aat{n:Nat}(au:P.underlying t=some (.array n e))(Dy:P.cellsOf e=sz)(iC:P.cellsOf t=n*sz){ds:List (DataW H)}(h:DataW.trod enc P w base dO held de t cs=some (.agg ds,p))(an:rows.length=ds.length)
  (e8:∀ i (hi:i<ds.length) (cT:i<rows.length) de cs p,DataW.trod enc P w base dO held de e cs=some (ds[i],p)->cs=rows[i]):cs=rows.flatten:=by
 obtain⟨xs,m,rfl,ab,ay,lx,hi⟩:=KH au h;have k2:ds=xs.map (·.1):=by have:=congrArg Prod.fst ab;simpa using this
 have jl:rows.length=n:=by rw[an,k2];simpa using lx
 refine RG (sz:=sz) rows cs (by rw[ay,iC,jl]) λi cT=>?_;have U:=hi i (by omega);rw[Dy]at U;have sc:i<xs.length:=by omega
 rw[gu sc]at U;have ag:ds[i]'(by rw[k2];simpa using sc)=xs[i].1:=by simp[k2]
 exact e8 i (by rw[k2];simpa using sc) cT m _ xs[i].2 (by rw[ag];exact U)
def RH(d:DataW H):Option (List Value):=match d with
 | .agg l=>l.mapM u5| _=>none
def Le{n:Nat}(au:P.underlying t=some (.array n e))(Dy:P.cellsOf e=sz)(iC:P.cellsOf t=n*sz){ds:List (DataW H)}(h:DataW.trod enc P w base dO held de t cs=some (.agg ds,p))(an:ds.mapM RH=some rows)
  (e8:∀ de cs p l row,DataW.trod enc P w base dO held de e cs=some (.agg l,p)->l.mapM u5=some row->cs=row):cs=rows.flatten:=by
 obtain⟨aR,aV⟩:=G1 an;refine aat au Dy iC h aR λi hi cT de cs p a1=>?_;have aa:=aV i hi cT;unfold RH at aa;split at aa
 ·rename_i l ay;rw[ay]at a1;exact e8 _ _ _ _ _ a1 aa
 ·cases aa
end
end Go.V
namespace Go.V
open Go Go.Proofs
variable{d:aP}{P deb:List Int}{t:bJ}{x y:Operand}{a:Option Addr}{other:Prop}{I I':aN}{i c sz size de base:Nat}{g:b3}{w:Bool}{F:Fr}{C:c7}{M:List aC}{vs cs:List Value}{α:Type}{X:cx}{c9 Di:dH}{l:List (ByteArray×Int)}{v:Value}{m:List Bool}{L:List (List Int)}{W jo:World}{bT:Array Field}{rows:List (List Value)}{p:List MemPlace}
def G2{P:Program}{n:String}{g:Nat}{cs:Array Value}(ar:P.globalNamed n=some g)(h:W.var? P n=some cs):∃ T aj,W.heap[g]?=some (.cells cs T aj):=by
 simp only[World.var?,ar,Option.bind_some]at h;split at h
 ·rename_i c T aj bI;cases h;exact⟨T,aj,bI⟩
 ·cases h
def fv:List Int:=[0,1,56,2,57,49,28,3,61,58,42,50,38,29,17,4,62,47,59,36,45,43,51,22,53,39,33,30,24,18,12,5,63,55,48,27,60,41,37,16,46,35,44,21,52,32,23,11,54,26,40,15,34,20,31,10,25,14,19,9,13,8,7,6]
def aau{rest:List (String×DataW Unit)}(h:laidMet Tryz.prog ([("math/bits.deBruijn32tab",YtelfblhcphnbmaaGreatDoor.Rows.laid_math_bits_deBruijn32tab),("math/bits.deBruijn64tab",YtelfblhcphnbmaaGreatDoor.Rows.laid_math_bits_deBruijn64tab),("internal/strconv.uint64pow10",YtelfblhcphnbmaaGreatDoor.Rows.laid_internal_strconv_uint64pow10),("bonsai/tree.counts",YtelfblhcphnbmaaGreatDoor.Rows.laid_bonsai_tree_counts),("bonsai/print.counts",YtelfblhcphnbmaaGreatDoor.Rows.laid_bonsai_print_counts),("bonsai/print.signs",YtelfblhcphnbmaaGreatDoor.Rows.laid_bonsai_print_signs)]++rest) W):hG (py W) fv:=by
 obtain⟨ps,b1,_⟩:=h;obtain⟨aR,t1,ak9,f1,qk,eH,jn,yG,Ah,fR,b1,_⟩:=b1;obtain⟨aV,t2,aav,f2,ql,eI,l1,rl,Ai,lC,b1,_⟩:=b1;obtain⟨bl,t3,ala,f3,rp,fK,nE,wR,aaw,yL,b1,_⟩:=b1;obtain⟨fP,t4,aax,f4,AI,gK,u2,Lf,aay,Lg,b1,_⟩:=b1;obtain⟨om,t5,aaz,f5,aaA,alb,G3,Dz,aaB,aaC,b1,_⟩:=b1;obtain⟨G4,t6,aaD,f6,alc,ald,G5,aaE,aaF,aaG,b1,_⟩:=b1;obtain rfl:=qp ((show Tryz.prog.globalNamed "math/bits.deBruijn64tab" = some 6 by kernel_rfl).symm.trans l1)
 obtain rfl:=qp ((show(Tryz.prog.globals[6]?).map (·.type)=some 309 by kernel_rfl).symm.trans rl);obtain rfl:=qp ((show Tryz.prog.globalNamed "bonsai/tree.counts" = some 0 by kernel_rfl).symm.trans u2)
 obtain rfl:=qp ((show(Tryz.prog.globals[0]?).map (·.type)=some 218 by kernel_rfl).symm.trans Lf);obtain rfl:=qp ((show Tryz.prog.globalNamed "bonsai/print.counts" = some 3 by kernel_rfl).symm.trans G3)
 obtain rfl:=qp ((show(Tryz.prog.globals[3]?).map (·.type)=some 304 by kernel_rfl).symm.trans Dz);obtain rfl:=qp ((show Tryz.prog.globalNamed "bonsai/print.signs" = some 1 by kernel_rfl).symm.trans G5)
 obtain rfl:=qp ((show(Tryz.prog.globals[1]?).map (·.type)=some 269 by kernel_rfl).symm.trans aaE);obtain⟨yD,nI,b2⟩:=G2 l1 Ai;obtain⟨KW,sd,k3⟩:=G2 u2 aay;obtain⟨aaH,u6,h9⟩:=G2 G3 aaB;obtain⟨aaI,DA,dj⟩:=G2 G5 aaF;have ef:aav.toList=fv.map (Value.int .u8):=RE (show Tryz.prog.underlying 309=some (.array 64 5) by kernel_rfl) (by kernel_rfl) (by kernel_rfl) (by kernel_rfl) lC (by kernel_rfl);have tC:aax.toList=lu.map (Value.int .i64):=Le (n:=10) (sz:=2) (show Tryz.prog.underlying 218=some (.array 10 126) by kernel_rfl) (by kernel_rfl) (by kernel_rfl) Lg (rows:=[[.int .i64 0,.int .i64 0],[.int .i64 0,.int .i64 0],[.int .i64 0,.int .i64 0],[.int .i64 0,.int .i64 0],[.int .i64 2,.int .i64 (-1)],[.int .i64 2,.int .i64 (-1)],[.int .i64 1,.int .i64 1],[.int .i64 1,.int .i64 1],[.int .i64 1,.int .i64 1],[.int .i64 1,.int .i64 1]]) (by kernel_rfl) (λ_ _ _ _ _ U aa=>RE (show Tryz.prog.underlying 126=some (.array 2 3) by kernel_rfl) (by kernel_rfl) (by kernel_rfl) (by kernel_rfl) U aa);have fields:∀ {t:TypeId},(match Tryz.prog.underlying t with
   |some (.struct bT)=>decide (Tryz.prog.cellsOf t=bT.size)&&(List.range bT.size).all λi=>match bT[i]? with
    |some f=>Dx Tryz.prog f.type&&(decide (f.offset=i)&&decide (Tryz.prog.cellsOf f.type=1))| none=>false
   |_=>false)=true->∀ (de:Nat) (cs:List Value) (p:List MemPlace) (l:List (DataW Unit)) (row:List Value),DataW.trod (λ_=>()) Tryz.prog W 0 (λ_=>true) false de t cs=some (.agg l,p)->l.mapM u5=some row->cs=row:=by
  intro t aA de cs p l row U aa;split at aA;·rename_i bT hu;simp only[bL,ft,gq,kk]at aA;refine aas hu (λi f aw=>?_) aA.1 U aa;have hi:=aA.2 i (kg.1 aw).1;rw[aw]at hi;simpa using hi
  ·cases aA
 have pz:aaz.toList=Dj:=Le (n:=3) (sz:=3) (show Tryz.prog.underlying 304=some (.array 3 303) by kernel_rfl) (by kernel_rfl) (by kernel_rfl) aaC (rows:=[[.int .i64 0,.int .i64 1,.string ⟨#[63]⟩],[.int .i64 0,.int .i64 (-1),.string ⟨#[42]⟩],[.int .i64 1,.int .i64 (-1),.string ⟨#[43]⟩]]) (by kernel_rfl) (fields (by kernel_rfl));have u7:aaD.toList=r4.map λl=>Value.string (strOf l):=Le (n:=10) (sz:=3) (show Tryz.prog.underlying 269=some (.array 10 268) by kernel_rfl) (by kernel_rfl) (by kernel_rfl) aaG (rows:=[[.string ⟨#[]⟩,.string ⟨#[]⟩,.string ⟨#[]⟩],[.string ⟨#[]⟩,.string ⟨#[]⟩,.string ⟨#[]⟩],[.string ⟨#[]⟩,.string ⟨#[]⟩,.string ⟨#[]⟩],[.string ⟨#[]⟩,.string ⟨#[]⟩,.string ⟨#[]⟩],[.string ⟨#[]⟩,.string ⟨#[32]⟩,.string ⟨#[]⟩],[.string ⟨#[]⟩,.string ⟨#[32,47,32]⟩,.string ⟨#[]⟩],[.string ⟨#[]⟩,.string ⟨#[]⟩,.string ⟨#[]⟩],[.string ⟨#[38]⟩,.string ⟨#[]⟩,.string ⟨#[]⟩],[.string ⟨#[33]⟩,.string ⟨#[]⟩,.string ⟨#[]⟩],[.string ⟨#[60]⟩,.string ⟨#[]⟩,.string ⟨#[62]⟩]]) (by kernel_rfl) (fields (by kernel_rfl));have arr:∀ {cs:Array Value} {l:List Value},cs.toList=l->cs=l.toArray:=λh=>by apply fV;simpa using h
 refine⟨⟨KW,sd,?_⟩,⟨aaH,u6,?_⟩,⟨aaI,DA,?_⟩,by decide,by decide,yD,nI,?_⟩
 ·rw[<-arr tC];exact k3
 ·rw[<-arr pz];exact h9
 ·rw[<-arr u7];exact dj
 ·rw[<-arr ef];exact b2
def AJ(cs:Array Value):Obj->Obj
 | .cells _ t aj=>.cells cs t aj| o=>o
def aaJ:List Int:=(List.range 20).map λi=>(10:Int)^i
def aaK:List Int:=[0,1,28,2,29,14,24,3,30,22,20,15,25,17,4,8,31,27,13,23,21,19,16,7,26,12,18,6,11,5,10,9]
noncomputable def Lh(os:Os):World:=
 { World.holding Tryz.prog os ⟨#[],#[],[]⟩with heap:=((((((World.holding Tryz.prog os ⟨#[],#[],[]⟩).heap.modify 0 (AJ (lu.map (Value.int .i64)).toArray)).modify 3 (AJ Dj.toArray)).modify 1 (AJ (r4.map λl=>Value.string (strOf l)).toArray)).modify 6 (AJ (fv.map (Value.int .u8)).toArray)).modify 2 (AJ (aaJ.map (Value.int .u64)).toArray)).modify 5 (AJ (aaK.map (Value.int .u8)).toArray) }
def own:ownKnob Tryz.prog.godebug=none:=by kernel_rfl
def laidOut:laidOutB Tryz.prog=true:=by kernel_rfl
def RI{l:List α}{q:α->Bool}(h:l.all q=true){x:α}(ab:x∈l):q x=true:=gq.1 h x ab
def aaL{L:List (String×DataW Unit)}(b1:laidMetH Tryz.prog L W)(he:L=[("math/bits.deBruijn32tab",YtelfblhcphnbmaaGreatDoor.Rows.laid_math_bits_deBruijn32tab),("math/bits.deBruijn64tab",YtelfblhcphnbmaaGreatDoor.Rows.laid_math_bits_deBruijn64tab),("internal/strconv.uint64pow10",YtelfblhcphnbmaaGreatDoor.Rows.laid_internal_strconv_uint64pow10),("bonsai/tree.counts",YtelfblhcphnbmaaGreatDoor.Rows.laid_bonsai_tree_counts),("bonsai/print.counts",YtelfblhcphnbmaaGreatDoor.Rows.laid_bonsai_print_counts),("bonsai/print.signs",YtelfblhcphnbmaaGreatDoor.Rows.laid_bonsai_print_signs)]):hG (py W) fv:=by
 subst he;exact aau (rest:=[]) b1
structure tD(I:aN)(d:aP):Prop where
 k:0<=d.k/\d.k<256
 eh:eF d.eh
 s1:eF d.s1
 s2:eF d.s2
 fJ:eF d.fJ
 lo:gj d.lo
 hi:gj d.hi
 aU:dW I d.kX d.kn d.j0 1 0 (d.kids.map (.int .i64 ·))
 kids:∀ x∈d.kids,gj x
 ts:d.t.size<=9223372036854775807
structure se(I:aN)(t:bJ):Prop where
 aU:dW I t.a t.n t.c 9 0 (t.ns.flatMap aP.cells)
 ns:∀ d∈t.ns,tD I d
 root:gj t.root
structure wS(I:aN)(d:a'):Prop where
 name:d.name.size<=9223372036854775807
 t:se I d.t
structure qx(I:aN)(g:b3):Prop where
 aU:dW I g.a g.n g.c 3 0 (g.ds.flatMap a'.cells)
 ds:∀ d∈g.ds,wS I d
def dW.sf{n b iq:Nat}(h:dW I a n c size b vs)(af:n*iq<=140737488355328):dW I a n c size iq vs:=⟨h.len,⟨h.cap.1,af⟩,h.rd⟩
structure Li(d:aP):Prop where
 kn:d.kn<2500
structure RJ(d:a'):Prop where
 name:d.name.size<2500
 n:d.t.n<2500
 ns:∀ bS∈d.t.ns,Li bS
structure aaM(g:b3):Prop where
 n:g.n<2500
 ds:∀ d∈g.ds,RJ d
def tD.ok(h:tD I d)(ao:Li d):d.ok I:=
 ⟨h.k,h.eh,h.s1,h.s2,h.fJ,h.ts,h.lo,h.hi,h.aU.sf (by have:=ao.kn;omega),h.kids⟩
def wS.ok{d:a'}(h:wS I d)(ao:RJ d):d.ok I:=
 ⟨by have:=ao.name;omega,⟨h.t.aU.sf (by have:=ao.n;omega),λbS cf=>(h.t.ns bS cf).ok (ao.ns bS cf),h.t.root⟩⟩
def qx.ok(h:qx I g)(ao:aaM g):g.ok I:=
 ⟨h.aU.sf (by have:=ao.n;omega),λd ai=>(h.ds d ai).ok (ao.ds d ai)⟩
def tD.mono(h:tD I d)(a9:∀ b o,I b=some o->I' b=some o):tD I' d:={ h with aU:=h.aU.mono a9 }
def wS.mono{d:a'}(h:wS I d)(a9:∀ b o,I b=some o->I' b=some o):wS I' d:=⟨h.name,h.t.aU.mono a9,λbS cf=>(h.t.ns bS cf).mono a9,h.t.root⟩
def qx.mono(h:qx I g)(a9:∀ b o,I b=some o->I' b=some o):qx I' g:=⟨h.aU.mono a9,λd ai=>(h.ds d ai).mono a9⟩
def qx.n(h:qx I g):g.ds.length=g.n:=by have:=h.aU.len;rw[ji _ 3 a'.c0]at this;omega
def se.n(h:se I t):t.ns.length=t.n:=by have:=h.aU.len;rw[ji _ 9 aP.c0]at this;omega
def e4{x r:Int}(h:x=r)(an:-9223372036854775808<=r/\r<=9223372036854775807):IntKind.i64.wrap x=r:=by rw[h];exact wrap_i64 an
section
variable{H:Type}{enc:TypeId×Value->H}{P:Program}{W:World}{base:Nat}{dO:Nat->Bool}{held:Bool}
def RK{α:Type}{p:Nat->α->Prop}:∀ (n:Nat),(∀ i,i<n->∃ d,p i d)->∃ l:List α,l.length=n/\∀ i (h:i<l.length),p i l[i]
 |0,_=>⟨[],rfl,λi h=>by simp at h⟩
 |n+1,h=>by
  obtain⟨l,U,aa⟩:=RK n λi hi=>h i (by omega);obtain⟨d,ai⟩:=h n (by omega);refine⟨l++[d],by simp[U],λi hi=>?_⟩;by_cases aL:i<l.length;·rw[List.getElem_append_left aL];exact aa i aL
  ·have e:i=l.length:=by simp at hi;omega
   subst e;simpa[U]using ai
def Lj{f:α->List Value}(ao:0<size)(aw:∀ x,(f x).length=size)(ok:α->Prop){t e:TypeId}(au:P.underlying t=some (.slice e))(aA:P.cellsOf e=size)(e8:∀ de cs x,DataW.trod enc P W base dO held de e cs=some x->∃ d,cs=f d/\ok d){x:DataW H×List MemPlace}(h:DataW.trod enc P W base dO held de t cs=some x) :
  ∃ (a:Option Addr) (n c:Nat) (l:List α),cs=[.slice a n c]/\dW (py W) a n c size 0 (l.flatMap f)/\l.length=n/\(∀ d∈l,ok d)/\(a=none->c=0)/\c<=maxLen:=by
 rcases DataW.trod_slice au h with⟨rfl,_⟩ | ⟨a,len,cap,ale,rest,m,_,rfl,_,af,ay,hm,hlen,Lk,_,_⟩
 ·exact⟨none,0,0,[],rfl,⟨by simp,⟨b6 _,by omega⟩,.inl rfl⟩,rfl,λd ai=>by simp at ai,λ_=>rfl,by unfold maxLen;omega⟩
 have each:∀ i,i<len->∃ d,ok d/\W.cells? base (a.add (i*size)) size=some (f d):=λi hi=>by have U:=Lk i hi;rw[aA,gu (by omega)]at U;obtain⟨cs',aa,ag⟩:=Jo.1 U;obtain⟨d,rfl,ai⟩:=e8 _ _ _ ag;exact⟨d,ai,aa⟩
 obtain⟨l,o6,Ll⟩:=RK len each;refine⟨some a,len,cap,l,rfl,⟨by rw[ji f size aw,o6],⟨ay,by omega⟩,?_⟩,o6,λd ai=>?_,λh=>by simp at h,hm⟩
 ·by_cases aq:len=0
  ·exact .inl aq
  right
  have hJ:=(Ll 0 (by omega)).2;obtain⟨-,-,DB⟩:=World.cells?_some hJ;have G6:=DB 0 ao;rw[gu (by rw[aw];exact ao)]at G6;have RL:a.spot=none:=by
   have:=World.cell?_spot G6;cases bQ:a.spot with
   |none=>rfl| some s=>simp[Addr.add,bQ]at this
  refine⟨a,rfl,RL,?_⟩;have RM:∀ i (hi:i<l.length),∀ k,k<size->W.cell? ⟨a.block,a.off+(i*size+k),none⟩=(f l[i])[k]?:=λi hi k ae=>by obtain⟨-,-,bI⟩:=World.cells?_some (Ll i hi).2;have:=bI k ae;rw[d' _ RL,d' _ rfl]at this;rw[<-this];congr 2;simp only[];omega
  have Lm:∃ cs T aj,W.heap[a.block]?=some (.cells cs T aj):=by
   have U:=RM 0 (by omega) 0 ao;rw[gu (by rw[aw];exact ao)]at U;unfold World.cell? at U;cases bI:W.heap[a.block]? with
   |none=>simp[bI]at U
   |some o=>
    cases o with
    |cells cs T aj=>exact⟨cs,T,aj,rfl⟩| _=>simp[bI]at U
  obtain⟨cs,T,aj,bI⟩:=Lm;refine⟨cs,T,aj,bI,?_⟩;have u9:=ji f size aw l;apply Gn;intro j;by_cases al:j<len*size
  ·have hdiv:j/size<l.length:=by rw[o6];exact Nat.div_lt_of_lt_mul (by rw[yz];exact al)
   have u':=Nat.mod_lt j ao;have e:=Nat.div_add_mod j size;rw[yz]at e;have U:=RM (j/size) hdiv (j%size) u';rw[e]at U;have aa:=wx f size aw l (j/size) hdiv;have ag:(l.flatMap f)[j]?=(f l[j/size])[j%size]?:=by rw[<-aa,kK,dv u',pX,e]
   rw[ag,<-U,kK,dv al,pX];simp[World.cell?,bI]
  ·rw[z7 (by rw[nh];omega),z7 (by rw[u9,o6];omega)]
 ·obtain⟨i,hi,rfl⟩:=yx ai;exact(Ll i hi).1
def yM{k:IntKind}{t:TypeId}{x:DataW H×List MemPlace}(au:P.underlying t=some (.int k))(h:DataW.trod enc P W base dO held de t cs=some x):∃ n,cs=[.int k n]/\(Lit.int k n).wf=true:=by obtain⟨n,U,_,aa⟩:=DataW.trod_int au h;exact⟨n,U,aa⟩
def wf_i64{n:Int}(h:(Lit.int .i64 n).wf=true):gj n:=by simp[Lit.wf,IntKind.min,IntKind.max,IntKind.signed,IntKind.bits]at h;exact h
def wf_u64{n:Int}(h:(Lit.int .u64 n).wf=true):eF n:=by simp[Lit.wf,IntKind.min,IntKind.max,IntKind.signed,IntKind.bits]at h;unfold eF;omega
def wf_u8{n:Int}(h:(Lit.int .u8 n).wf=true):0<=n/\n<256:=by simp[Lit.wf,IntKind.min,IntKind.max,IntKind.signed,IntKind.bits]at h;omega
end
section
variable{H:Type}{enc:TypeId×Value->H}{W:World}{base:Nat}{dO:Nat->Bool}{held:Bool}
def aaN{x:DataW H×List MemPlace}(h:DataW.trod enc Tryz.prog W base dO held de 70 cs=some x) :
  ∃ (a:Option Addr) (n c:Nat) (l:List Int),cs=[.slice a n c]/\dW (py W) a n c 1 0 (l.map (.int .i64 ·))/\l.length=n/\∀ k∈l,gj k:=by
 obtain⟨a,n,c,l,U,aa,ag,aK,-,-⟩:=Lj (f:=λk=>[Value.int .i64 k]) (size:=1) (by decide) (λ_=>rfl) gj (show Tryz.prog.underlying 70=some (.slice 3) by kernel_rfl) (by kernel_rfl)
  (λde cs x h=>by
   obtain⟨n,U,aa⟩:=yM (show Tryz.prog.underlying 3=some (.int .i64) by kernel_rfl) h;exact⟨n,U,wf_i64 aa⟩) h
 refine⟨a,n,c,l,U,?_,ag,aK⟩;rwa [<-List.map_eq_flatMap]at aa
def aaO{l:List α}(h:l.length=4):∃ a b c d,l=[a,b,c,d]:=by
 match l,h with
 |[a,b,c,d],_=>exact⟨a,b,c,d,rfl⟩
def aaP{l:List α}(h:l.length=9):∃ a b c d e f g i j,l=[a,b,c,d,e,f,g,i,j]:=by
 match l,h with
 |[a,b,c,d,e,f,g,i,j],_=>exact⟨a,b,c,d,e,f,g,i,j,rfl⟩
def aaQ{l:List α}(h:l.length=3):∃ a b c,l=[a,b,c]:=by
 match l,h with
 |[a,b,c],_=>exact⟨a,b,c,rfl⟩
def aaR{l:List α}(h:l.length=2):∃ a b,l=[a,b]:=by
 match l,h with
 |[a,b],_=>exact⟨a,b,rfl⟩
def aaS{l:List α}(h:l.length=1):∃ a,l=[a]:=by
 match l,h with
 |[a],_=>exact⟨a,rfl⟩
def aaT{x:DataW H×List MemPlace}(h:DataW.trod enc Tryz.prog W base dO held de 69 cs=some x) :
  ∃ a b c d:Int,cs=[.int .u64 a,.int .u64 b,.int .u64 c,.int .u64 d]/\eF a/\eF b/\eF c/\eF d:=by
 obtain⟨xs,m,_,_,ay,lx,hi⟩:=KH (show Tryz.prog.underlying 69=some (.array 4 67) by kernel_rfl) h;rw[show Tryz.prog.cellsOf 69=4 by kernel_rfl]at ay;rw[show Tryz.prog.cellsOf 67=1 by kernel_rfl]at hi;have hu:Tryz.prog.underlying 67=some (.int .u64):=by kernel_rfl
 obtain⟨a,b,c,d,rfl⟩:=aaO ay;have get:∀ i,(iS:i<4)->∃ n,(([a,b,c,d]:List Value).drop (i*1)).take 1=[.int .u64 n]/\eF n:=λi iS=>by have U:=hi i iS;rw[gu (by omega)]at U;obtain⟨n,aa,ag⟩:=yM hu U;exact⟨n,aa,wf_u64 ag⟩
 obtain⟨n0,b7,gy⟩:=get 0 (by decide);obtain⟨h6,ax,cM⟩:=get 1 (by decide);obtain⟨iA,az,cp⟩:=get 2 (by decide);obtain⟨rq,bc,eD⟩:=get 3 (by decide);simp at b7 ax az bc;subst b7 ax az bc;exact⟨_,_,_,_,rfl,gy,cM,cp,eD⟩
def DC{P:Program}{t:Nat}{l:List (Nat×Nat)}(h:(match P.underlying t with
  |some (.struct bT)=>decide (bT.toList.map (λf=>(f.type,f.offset))=l)| _=>false)=true):∃ bT,P.underlying t=some (.struct bT)/\bT.toList.map (λf=>(f.type,f.offset))=l:=by
 split at h
 ·rename_i bT hu;exact⟨bT,hu,cr h⟩
 ·cases h
def G7{P:Program}{l:List (Nat×Nat)}{q:Nat->Nat->Prop}(aw:bT.toList.map (λf=>(f.type,f.offset))=l)(h:∀ (i:Nat) (f:Field),bT[i]?=some f->q f.type f.offset):∀ (i t o:Nat),l[i]?=some (t,o)->q t o:=by subst aw;intro i t o hi;simp only[xN,sU,Prod.mk.injEq]at hi;obtain⟨f,U,rfl,rfl⟩:=hi;exact h i f (by simpa using U)
def G8{P:Program}{t:TypeId}{x:DataW H×List MemPlace}(au:P.underlying t=some (.struct bT))(h:DataW.trod enc P W base dO held de t cs=some x) :
  cs.length=P.cellsOf t/\∀ (i:Nat) (f:Field),bT[i]?=some f->∃ de y,DataW.trod enc P W base dO held de f.type ((cs.drop f.offset).take (P.cellsOf f.type))=some y:=by
 obtain⟨xs,m,_,_,ay,lx,hi⟩:=DataW.trod_struct au h;refine⟨ay,λi f aw=>?_⟩;have aL:=(kg.1 aw).1;have U:=hi i f aw;rw[gu (by omega)]at U;exact⟨_,_,U⟩
def aaU{x:DataW H×List MemPlace}(h:DataW.trod enc Tryz.prog W base dO held de 72 cs=some x):∃ d:aP,cs=d.cells/\tD (py W) d:=by obtain⟨bT,au,aw⟩:∃ bT,Tryz.prog.underlying 72=some (.struct bT)/\bT.toList.map (λf=>(f.type,f.offset))=[(5,0),(69,1),(9,5),(3,6),(3,7),(70,8)]:=DC (by kernel_rfl);obtain⟨ay,hi⟩:=G8 au h;have hi:∀ (i t o:Nat),[(5,0),(69,1),(9,5),(3,6),(3,7),(70,8)][i]?=some (t,o)->∃ de y,DataW.trod enc Tryz.prog W base dO held de t ((cs.drop o).take (Tryz.prog.cellsOf t))=some y:=G7 (P:=Tryz.prog) aw hi;rw[show Tryz.prog.cellsOf 72=9 by kernel_rfl]at ay;obtain⟨hJ,dw,ef,hV,tC,pz,u7,va,wT,rfl⟩:=aaP ay;obtain⟨_,_,aq⟩:=hi 0 _ _ rfl;obtain⟨_,_,U⟩:=hi 1 _ _ rfl;obtain⟨_,_,aa⟩:=hi 2 _ _ rfl;obtain⟨_,_,ag⟩:=hi 3 _ _ rfl;obtain⟨_,_,aK⟩:=hi 4 _ _ rfl;obtain⟨_,_,bg⟩:=hi 5 _ _ rfl;rw[show Tryz.prog.cellsOf 5=1 by kernel_rfl]at aq;rw[show Tryz.prog.cellsOf 69=4 by kernel_rfl]at U;rw[show Tryz.prog.cellsOf 9=1 by kernel_rfl]at aa;rw[show Tryz.prog.cellsOf 3=1 by kernel_rfl]at ag aK;rw[show Tryz.prog.cellsOf 70=1 by kernel_rfl]at bg;obtain⟨k,b7,DD⟩:=yM (show Tryz.prog.underlying 5=some (.int .u8) by kernel_rfl) aq;obtain⟨a,b,c,d,ax,hT,kU,mF,iy⟩:=aaT U;obtain⟨s,az,-,ws⟩:=GI (show Tryz.prog.underlying 9=some .string by kernel_rfl) aa;obtain⟨lo,bc,wl⟩:=yM (show Tryz.prog.underlying 3=some (.int .i64) by kernel_rfl) ag;obtain⟨cT,ct,aaV⟩:=yM (show Tryz.prog.underlying 3=some (.int .i64) by kernel_rfl) aK;obtain⟨kX,kn,j0,kids,ej,q5,dP,jk⟩:=aaN bg;simp at b7 ax az bc ct ej;obtain⟨Ln,Lo,aaW,aaX⟩:=ax;subst b7 Ln Lo aaW aaX az bc ct ej;exact⟨⟨k,a,b,c,d,s,lo,cT,kX,kn,j0,kids⟩,rfl,wf_u8 DD,hT,kU,mF,iy,wf_i64 wl,wf_i64 aaV,q5,jk,by unfold maxLen at ws;omega⟩
def aaY{x:DataW H×List MemPlace}(h:DataW.trod enc Tryz.prog W base dO held de 47 cs=some x):∃ t:bJ,cs=t.cells/\se (py W) t:=by obtain⟨bT,au,aw⟩:∃ bT,Tryz.prog.underlying 47=some (.struct bT)/\bT.toList.map (λf=>(f.type,f.offset))=[(45,0),(3,1)]:=DC (by kernel_rfl);obtain⟨ay,hi⟩:=G8 au h;have hi:∀ (i t o:Nat),[(45,0),(3,1)][i]?=some (t,o)->∃ de y,DataW.trod enc Tryz.prog W base dO held de t ((cs.drop o).take (Tryz.prog.cellsOf t))=some y:=G7 (P:=Tryz.prog) aw hi;rw[show Tryz.prog.cellsOf 47=2 by kernel_rfl]at ay;obtain⟨hJ,dw,rfl⟩:=aaR ay;obtain⟨_,_,aq⟩:=hi 0 _ _ rfl;obtain⟨_,_,U⟩:=hi 1 _ _ rfl;rw[show Tryz.prog.cellsOf 45=1 by kernel_rfl]at aq;rw[show Tryz.prog.cellsOf 3=1 by kernel_rfl]at U;obtain⟨a,n,c,l,b7,q5,av,bb,-,-⟩:=Lj (f:=aP.cells) (size:=9) (by decide) aP.c0 (tD (py W)) (show Tryz.prog.underlying 45=some (.slice 72) by kernel_rfl) (by kernel_rfl) (λde cs x h=>aaU h) aq;obtain⟨r,ax,wr⟩:=yM (show Tryz.prog.underlying 3=some (.int .i64) by kernel_rfl) U;simp at b7 ax;subst b7 ax;exact⟨⟨l,a,n,c,r⟩,rfl,q5,bb,wf_i64 wr⟩
def aaZ{x:DataW H×List MemPlace}(h:DataW.trod enc Tryz.prog W base dO held de 66 cs=some x):∃ d:a',cs=d.cells/\wS (py W) d:=by obtain⟨bT,au,aw⟩:∃ bT,Tryz.prog.underlying 66=some (.struct bT)/\bT.toList.map (λf=>(f.type,f.offset))=[(9,0),(47,1)]:=DC (by kernel_rfl);obtain⟨ay,hi⟩:=G8 au h;have hi:∀ (i t o:Nat),[(9,0),(47,1)][i]?=some (t,o)->∃ de y,DataW.trod enc Tryz.prog W base dO held de t ((cs.drop o).take (Tryz.prog.cellsOf t))=some y:=G7 (P:=Tryz.prog) aw hi;rw[show Tryz.prog.cellsOf 66=3 by kernel_rfl]at ay;obtain⟨hJ,dw,ef,rfl⟩:=aaQ ay;obtain⟨_,_,aq⟩:=hi 0 _ _ rfl;obtain⟨_,_,U⟩:=hi 1 _ _ rfl;rw[show Tryz.prog.cellsOf 9=1 by kernel_rfl]at aq;rw[show Tryz.prog.cellsOf 47=2 by kernel_rfl]at U;obtain⟨s,b7,-,ws⟩:=GI (show Tryz.prog.underlying 9=some .string by kernel_rfl) aq;obtain⟨t,ax,au⟩:=aaY U;simp[bJ.cells]at b7 ax;obtain⟨Ln,Lo⟩:=ax;subst b7 Ln Lo;exact⟨⟨s,t⟩,rfl,by unfold maxLen at ws;exact ws,au⟩
def aa0{x:DataW H×List MemPlace}(h:DataW.trod enc Tryz.prog W base dO held de 30 cs=some x):∃ g:b3,cs=[.slice g.a g.n g.c]/\qx (py W) g:=by obtain⟨bT,au,aw⟩:∃ bT,Tryz.prog.underlying 30=some (.struct bT)/\bT.toList.map (λf=>(f.type,f.offset))=[(28,0)]:=DC (by kernel_rfl);obtain⟨ay,hi⟩:=G8 au h;have hi:∀ (i t o:Nat),[(28,0)][i]?=some (t,o)->∃ de y,DataW.trod enc Tryz.prog W base dO held de t ((cs.drop o).take (Tryz.prog.cellsOf t))=some y:=G7 (P:=Tryz.prog) aw hi;rw[show Tryz.prog.cellsOf 30=1 by kernel_rfl]at ay;obtain⟨hJ,rfl⟩:=aaS ay;obtain⟨_,_,aq⟩:=hi 0 _ _ rfl;rw[show Tryz.prog.cellsOf 28=1 by kernel_rfl]at aq;obtain⟨a,n,c,l,b7,q5,av,bb,-,-⟩:=Lj (f:=a'.cells) (size:=3) (by decide) a'.c0 (wS (py W)) (show Tryz.prog.underlying 28=some (.slice 66) by kernel_rfl) (by kernel_rfl) (λde cs x h=>aaZ h) aq;exact⟨⟨l,a,n,c⟩,b7,q5,bb⟩
def aa1{P:Program}{w:World}{r:Reach}{t:Nat}(au:P.underlying t=some (.struct bT))(h:Value.okWide P w r base t v):∃ cs,v=.agg cs:=by obtain⟨cs,U,-⟩:=Go.WideShapes.okWide_struct au h;exact⟨cs,U⟩
set_option maxRecDepth 100000 in
def aa2{d:DataW H}(h:DataW.Trod enc Tryz.prog W 0 (λ_=>true) true 30 v d p)(ah:Value.okWide Tryz.prog W .any base 30 v):∃ g:b3,v=g.val/\qx (py W) g:=by obtain⟨bT,au,-⟩:=DC (P:=Tryz.prog) (t:=30) (l:=[(28,0)]) (by kernel_rfl);obtain⟨cs,rfl⟩:=aa1 au ah;obtain⟨de,aw⟩:=h;obtain⟨g,e,ar⟩:=aa0 aw;refine⟨g,?_,ar⟩;have a0:cs.toList=[.slice g.a g.n g.c]:=e;cases cs;simp only at a0;subst a0;rfl
end
def RN{H:Type}{enc:TypeId×Value->H}{P:Program}(ay:laidOutB P=true){W jo:World}(ae:yK W jo):∀ {ts:List TypeId} {vs:List Value} {ds:List (DataW H)} {ps:List MemPlace},(∀ t∈ts,P.readableRec t=true/\t<P.types.size) -> DataW.TrodAll enc P W 0 (λ_=>true) true ts vs ds ps->(∀ p∈ps,p.block<W.heap.size)->∀ dO:Nat->Bool,(∀ p∈ps,dO p.block=true)->DataW.TrodAll enc P jo 0 dO true ts vs ds ps
 |[],[],[],_,_,h,_,_,_=>h
 |t::ts,v::vs,d::ds,_,au,⟨p,q,U,aa,e⟩,aL,dO,ao=>by
  subst e;refine⟨p,q,?_,?_,rfl⟩
  ·refine Go.WideElems.Trod_stays ay (au t (.head _)).1 (au t (.head _)).2 U (λx ab=>?_) (λx ab=>ao x (en.2 (.inl ab)));have bi:=aL x (en.2 (.inl ab));cases x with
   |cell b o=>exact World.cell?_of_block (w:=W) (ae.cY b bi)| map b=>exact ae.cY b bi
  ·exact RN ay ae (λt h=>au t (.tail _ h)) aa (λx ab=>aL x (en.2 (.inr ab))) dO (λx ab=>ao x (en.2 (.inr ab)))
def aa3:mapsRowed Tryz.prog=true:=by kernel_rfl
def aa4:Tryz.prog.stopsHeard=true:=by kernel_rfl
def aa5:Tryz.prog.mayEnter=true:=by kernel_rfl
section
variable{H:Type}{enc:TypeId×Value->H}
set_option maxRecDepth 100000 in
def Lp{d:DataW H}(h:DataW.Trod enc Tryz.prog W 0 (λ_=>true) true 3 v d p)(ah:Value.okWide Tryz.prog W .any base 3 v):∃ i:Int,v=.int .i64 i/\gj i:=by
 have au:Tryz.prog.underlying 3=some (.int .i64):=by kernel_rfl
 obtain⟨n,rfl⟩:=Go.WideShapes.okWide_int au ah;obtain⟨de,aw⟩:=h;obtain⟨i,b7,hw⟩:=yM au aw;have ax:[Value.int .i64 n]=[Value.int .i64 i]:=b7;simp only[uZ,Value.int.injEq,true_and,and_true]at ax;subst ax;exact⟨n,rfl,wf_i64 hw⟩
set_option maxRecDepth 100000 in
def aa6{d:DataW H}(h:DataW.Trod enc Tryz.prog W 0 (λ_=>true) true 9 v d p)(ah:Value.okWide Tryz.prog W .any base 9 v):∃ s:ByteArray,v=.string s/\s.size<=9223372036854775807:=by
 have au:Tryz.prog.underlying 9=some .string:=by kernel_rfl
 obtain⟨n,rfl⟩:=Go.WideShapes.okWide_string au ah;obtain⟨de,aw⟩:=h;obtain⟨i,b7,-,hw⟩:=GI au aw;have ax:[Value.string n]=[Value.string i]:=b7;simp only[uZ,Value.string.injEq,and_true]at ax;subst ax;exact⟨n,rfl,by unfold maxLen at hw;exact hw⟩
end
structure bp where
 z:Bool
 s:Bool
 f:Bool
 deriving DecidableEq
def bp.cells(x:bp):List Value:=[.bool x.z,.bool x.s,.bool x.f]
def bp.val(x:bp):Value:=.agg #[.bool x.z,.bool x.s,.bool x.f]
def bp.c0(x:bp):x.cells.length=3:=rfl
def bp.pA(x:bp):Bool:=x.z||x.s
structure vb(I:aN)(M:List aC)(a:Option Addr)(n:Nat)(ks:List bp):Prop where
 n:ks.length=n
 rd:∀ j (h:j<ks.length),∃ ad,a=some ad/\bE I M (ad.add (j*3)) 3 ks[j].cells
def sg(aB:bp×Bool)(k:bp):bp×Bool:=(⟨aB.1.z&&k.z,aB.1.s||k.s,aB.1.f||(aB.2&&k.f)⟩,aB.2&&k.pA)
def DE(ks:List bp):bp×Bool:=ks.foldl sg (⟨true,false,false⟩,true)
def RO(ks:List bp):bp:=⟨(DE ks).1.z,(DE ks).1.s&&(DE ks).2,(DE ks).1.f⟩
def AK(f k:bp):bp:=⟨f.z||(f.f&&k.z),f.s||(f.f&&k.s),f.f&&k.f⟩
def aa7(ks:List bp):bp:=ks.foldl AK ⟨false,false,true⟩
def gL:bp:=⟨false,false,false⟩
def G9(d:aP)(k:bp):bp:=bif decide (d.hi=0)then⟨true,false,false⟩else⟨k.z||(decide (d.lo=0)&&k.f),k.s,decide (0<d.lo)&&k.f⟩
def DF(d:aP)(ks:List bp):bp:=
 bif decide (d.k=0)then⟨true,false,false⟩else
 bif decide (d.k=1)then⟨false,!d.nw,true⟩else
 bif decide (d.k=2)then⟨false,true,true⟩else
 bif decide (d.k=3)then ks.headD gL else
 bif decide (d.k=4)then RO ks else
 bif decide (d.k=5)then aa7 ks else
 bif decide (d.k=6)then G9 d (ks.headD gL)else
 bif decide (d.k=7)then⟨(ks.headD gL).pA,false,(ks.headD gL).f⟩else
 bif decide (d.k=8)then⟨(ks.headD gL).f,false,(ks.headD gL).pA⟩else ks.headD gL
section
variable{I:aN}{M:List aC}{d:aP}{a:Option Addr}{n c:Nat}{ks:List bp}
def vb.head(ae:vb I M a n ks)(aq:0<n):∃ ad,a=some ad/\bE I M (ad.add (0*3)) 3 (ks.headD gL).cells:=by
 have U:0<ks.length:=by rw[ae.n];exact aq
 obtain⟨ad,aa,ag⟩:=ae.rd 0 U;refine⟨ad,aa,?_⟩;cases ks with
 |nil=>simp at U| cons k ks=>exact ag
end
def RP(I:aN)(c:UInt8):Spec Tryz.prog 156 [.int .u8 c.toNat] I [] (λv I' M'=>v=.bool (letter c)/\I'=I/\M'=[]):=by
 refine bC [] aS Tryz.func156 rfl rfl rfl ?_;intro B aq
 repeat' (refine bo.mk (λh=>?_) (λh=>?_))
 all_goals
  refine⟨_,_,.refl,?_⟩;refine⟨?_,rfl,rfl⟩;simp_all[letter]
  all_goals first
   |omega|(rw[n5];simp;omega)
def aa8(I:aN)(c:UInt8):Spec Tryz.prog 157 [.int .u8 c.toNat] I [] (λv I' M'=>v=.bool (digit c)/\I'=I/\M'=[]):=by
 refine bC [] aS Tryz.func157 rfl rfl rfl ?_;intro B aq
 repeat' (refine bo.mk (λh=>?_) (λh=>?_))
 all_goals
  refine⟨_,_,.refl,?_⟩;refine⟨?_,rfl,rfl⟩;simp_all[digit]
  all_goals first
   |omega|(rw[n5];simp;omega)
def aa9(I:aN)(s:ByteArray)(ao:s.size<=140737488355328):Spec Tryz.prog 118 [.string s] I [] (λv I' M'=>v=.string (s.extract 0 (kv s))/\I'=I/\M'=[]):=by
 refine bC [] aS Tryz.func118 rfl rfl rfl ?_;intro B aq;have b7:∀ {s:ByteArray},kv s=0->s.extract 0 (kv s)=⟨#[]⟩:=λh=>by rw[h];apply oZ;simp[z6]
 refine bo.mk (λh=>?_) (λh=>?_)
 ·have U:s≠⟨#[]⟩:=by simpa using h
  have n':0<s.size:=by refine Nat.pos_of_ne_zero λe=>U ?_;apply oZ;exact CM e
  refine o2.mk 0 rfl n' ?_;refine aT.mk [] [] _ (.refl _) (RP I s[0]) ?_;rintro v I' M' -⟨rfl,rfl,rfl⟩;refine aI.mk (λh=>?_) (λh=>?_)
  ·have ay:letter s[0]=false:=by simpa using h
   refine⟨_,_,.refl,?_,rfl,rfl⟩;rw[b7]
   ·unfold kv;cases ai:s.data.toList with
    |nil=>rfl
    |cons c r=>
     have:s[0]=c:=by show s.data.toList[0]=c;simp only[ai];rfl
     rw[this]at ay;simp[ay]
  ·have ay:letter s[0]=true:=by simpa using h
   refine cD.inv (ι:=Nat) (λi=>{ bA:=[(0,.val (.string s)),(3,.val (.int .i64 i))],cj:=I' }) (λi=>i<=s.size/\∀ j (h:j<s.size),1<=j->j<i->ku s[j]=true) (λi=>s.size-i) ?_ ?_;·exact⟨0,⟨by omega,λj _ U aa=>by omega⟩,.refl,ln,.nil⟩
   ·rintro i⟨gG,gH⟩;have RQ:ku s[0]=true:=by simp[ku,ay]
    have next:∀ (aL:i<s.size),ku s[i]=true->(i+1<=s.size/\∀ k (h:k<s.size),1<=k->k<i+1->ku s[k]=true)/\s.size-(i+1)<s.size-i:=λaL aA=>
     ⟨⟨by omega,λj al U aa=>by
      by_cases e:j=i;·subst e;exact aA
      ·exact gH j al U (by omega)⟩,by omega⟩
    have out:(∀ (h:i<s.size),ku s[i]=false)->s.extract 0 i=s.extract 0 (kv s):=λav=>by
     have eA:1<=i:=by apply Nat.one_le_iff_ne_zero.2;intro e;subst e;rw[av n']at RQ;cases RQ
     rw[Qw n' ay eA gG gH av]
    have cm:(s.extract 0 i).size<=140737488355328:=by rw[CP];omega
    have eJ:IntKind.i64.wrap ((i:Int)+1)=((i+1:Nat):Int):=by rw[wrap_i64 ⟨by omega,by omega⟩];omega
    refine bo.mk (λh=>?_) (λh=>?_)
    ·have aL:i<s.size:=by simpa using h
     refine o2.mk i rfl aL ?_;refine aT.mk [] [] _ (.refl _) (RP I' s[i]) ?_;rintro v I' M' -⟨rfl,rfl,rfl⟩;refine bo.mk (λh=>?_) (λh=>?_)
     ·refine o2.mk i rfl aL ?_;refine aT.mk [] [] _ (.refl _) (aa8 _ s[i]) ?_;rintro v I' M' -⟨rfl,rfl,rfl⟩;refine aI.mk (λaa=>?_) (λaa=>?_)
      ·refine aQ.mk _ eJ ?_;exact⟨i+1,next aL (by simp only[ku];rw[show digit s[i]=true from aa];simp),.refl,ln,.nil⟩
      ·refine i'.mk 0 i rfl rfl (by omega) (by omega) ?_;refine⟨_,_,.refl,?_,rfl,rfl⟩;rw[<-out λ_=>by simp only[ku];rw[show letter s[i]=false from h,show digit s[i]=false from aa];rfl]
     ·refine aQ.mk _ eJ ?_;exact⟨i+1,next aL (by simp only[ku];rw[show letter s[i]=true from h];simp),.refl,ln,.nil⟩
    ·have c1:¬ i<s.size:=by simpa using h
     refine i'.mk 0 i rfl rfl (by omega) (by omega) ?_;refine⟨_,_,.refl,?_,rfl,rfl⟩;rw[<-out λh=>(c1 h).elim]
 ·have U:s=⟨#[]⟩:=by simpa using h
  subst U;refine⟨_,_,.refl,?_,rfl,rfl⟩;rw[b7];rfl
def Lq(I:aN)(s:ByteArray):Spec Tryz.prog 88 [.string s] I [] (λv I' M'=>v=.bool (gI s)/\I'=I/\M'=[]):=by
 refine bC [] aS Tryz.func88 rfl rfl rfl ?_;intro B aq;refine bo.mk (λU=>?_) (λU=>?_)
 ·refine bo.mk (λaa=>?_) (λaa=>?_)
  ·have h3:s.size<=32:=by simp at aa;omega
   refine aT.mk [] [] _ (.refl _) (aa9 I s (by omega)) ?_;rintro v I' M' -⟨rfl,rfl,rfl⟩;refine⟨_,_,.refl,?_,rfl,rfl⟩;have hle:=Qx s;have ax:(s.extract 0 (kv s)).size=kv s:=by rw[CP];omega
   have az:decide (s.extract 0 (kv s)=s)=decide (kv s=s.size):=by
    rw[AF];constructor;·intro h;rw[<-ax,h]
    ·intro h;rw[h];apply oZ;simp[z6]
   have h4:decide (s≠⟨#[]⟩)=true:=by simpa using U
   simp only[gI,h4,nl,show decide (s.size<=32)=true from fA h3,<-az]
  ·refine⟨_,_,.refl,?_,rfl,rfl⟩;have h4:decide (s≠⟨#[]⟩)=true:=by simpa using U
   have h3:decide (s.size<=32)=false:=by simp at aa;simp;omega
   simp only[gI,h4,h3,nl,nk]
 ·refine⟨_,_,.refl,?_,rfl,rfl⟩;have h4:decide (s≠⟨#[]⟩)=false:=by simpa using U
  simp only[gI,h4,nk]
def Lr:eF 0:=⟨by decide,by decide⟩
def i0:gj 0:=⟨by decide,by decide⟩
def DG(k:Int)(s:ByteArray):aP:=⟨k,0,0,0,0,s,0,0,none,0,0,[]⟩
def sh(d:aP):Bool:=decide (d.t=⟨#[]⟩)&&(decide (d.lo=0)&&decide (d.hi=0))
def aba(d:aP)(n:Int):Bool:=
 bif decide (d.k=0)then sh d&&decide (n=0)else
 bif decide (d.k=1)then sh d&&decide (n=0)else
 bif decide (d.k=2)then decide (d.lo=0)&&(decide (d.hi=0)&&(decide (n=0)&&(decide ((1:Int)<=d.t.size)&&decide ((d.t.size:Int)<=255))))else
 bif decide (d.k=3)then decide (d.lo=0)&&(decide (d.hi=0)&&(decide (n=0)&&gI d.t))else
 bif decide (d.k=4)||decide (d.k=5)then sh d&&decide (2<=n)else
 bif decide (d.k=6)then decide (d.t=⟨#[]⟩)&&(decide (n=1)&&(decide (0<=d.lo)&&(decide (d.lo<=99)&&(decide (d.hi=-1)||(decide (d.lo<=d.hi)&&decide (d.hi<=99))))))else
 bif decide (d.k=7)||decide (d.k=8)then sh d&&decide (n=1)else
 bif decide (d.k=9)then decide (d.lo=0)&&(decide (d.hi=0)&&(decide (n=1)&&gI d.t))else false
def DH(z:Bool)(d:aP)(n:Int):Bool:=
 bif decide (d.k=0)then z&&(sh d&&decide (n=0))else
 bif decide (d.k=1)then sh d&&decide (n=0)else
 bif decide (d.k=2)then z&&(decide (d.lo=0)&&(decide (d.hi=0)&&(decide (n=0)&&(decide ((1:Int)<=d.t.size)&&decide ((d.t.size:Int)<=255)))))else
 bif decide (d.k=3)then z&&(decide (d.lo=0)&&(decide (d.hi=0)&&(decide (n=0)&&gI d.t)))else
 bif decide (d.k=4)||decide (d.k=5)then z&&(sh d&&decide (2<=n))else
 bif decide (d.k=6)then z&&(decide (d.t=⟨#[]⟩)&&(decide (n=1)&&(decide (0<=d.lo)&&(decide (d.lo<=99)&&(decide (d.hi=-1)||(decide (d.lo<=d.hi)&&decide (d.hi<=99)))))))else
 bif decide (d.k=7)||decide (d.k=8)then z&&(sh d&&decide (n=1))else
 bif decide (d.k=9)then z&&(decide (d.lo=0)&&(decide (d.hi=0)&&(decide (n=1)&&gI d.t)))else false
def abb(s:ByteArray):decide (s=⟨#[]⟩)=decide (s.size=0):=by
 rw[n5];simp only[ft];constructor
 ·rintro rfl;rfl
 ·intro h;cases s with
  |mk d=>have:d.size=0:=h;simp[CM this]
def abc(ae:0<=d.k/\d.k<256)(n:Int):DH d.nw d n=fits d n:=by
 by_cases rc:10<=d.k
 ·have e:fits d n=false:=by simp[fits,rc]
  rw[e];unfold DH;have h:∀ j:Int,j<10->decide (d.k=j)=false:=λj al=>by simp;omega
  rw[h 0,h 1,h 2,h 3,h 4,h 5,h 6,h 7,h 8,h 9]<;>first | rfl | omega
 have Ls:d.k=0\/d.k=1\/d.k=2\/d.k=3\/d.k=4\/d.k=5\/d.k=6\/d.k=7\/d.k=8\/d.k=9:=by omega
 generalize bd:d.nw=z;have cm:=abb d.t;have abd:(d.t=ByteArray.empty) ↔ d.t.size=0:=by rw[<-AF];exact cm
 rcases Ls with h | h | h | h | h | h | h | h | h | h<;>rw[n5]<;>simp[DH,fits,h,bd,sh,qd,mH,lu,abd]<;>cases z<;>first | (simp;done) | grind
def cu.RR{P:Program}{E:Env}(aH:cB P E){t e:Nat}{aF:dH}(au:E t=some c9)(dg:c9.bz=.array 4 e)(he:E e=some aF){k:IntKind}(jL:aF.bz=.int k)(ar:P.eqGuardType P.depth t=false){dq bN cG c6 g6 cg b2 eQ:Int}{V:Value->Prop}(z:Bool)(bd:(dq == g6&&(bN == cg&&(cG == b2&&c6 == eQ)))=z)(h:V (.bool z)):cu P .eql t x y (.val (.agg #[.int k dq,.int k bN,.int k cG,.int k c6])) (.val (.agg #[.int k g6,.int k cg,.int k b2,.int k eQ])) V other:=
 .Kj aH au dg he jL ar (by rw[bd];exact h)
set_option maxRecDepth 20000 in
def abe(ae:0<=d.k/\d.k<256)(n:Int):Spec Tryz.prog 141 [d.val,.int .i64 n] I []
  (λv I' M'=>v=.bool (fits d n)/\I'=I/\M'=[]):=by
 rw[<-abc ae];obtain⟨k,eh,s1,s2,fJ,s,lo,hi,kX,kn,j0,kids⟩:=d;clear ae;refine bC [] aS Tryz.func141 rfl rfl rfl ?_;intro B aq;obtain⟨z,bd⟩:∃ z,aP.nw ⟨k,eh,s1,s2,fJ,s,lo,hi,kX,kn,j0,kids⟩=z:=⟨_,rfl⟩;rw[bd];refine cu.RR aS (e:=67) rfl rfl rfl rfl (by kernel_rfl) z bd ?_
 repeat' (first
  |refine bo.mk (λh=>?_) (λh=>?_)| refine aI.mk (λh=>?_) (λh=>?_)| refine cu.RR aS (e:=67) rfl rfl rfl rfl (by kernel_rfl) z bd ?_|(refine aT.mk [] [] _ (.refl _) (Lq _ s) ?_;rintro v I' M' -⟨rfl,rfl,rfl⟩))
 all_goals clear bd
 all_goals first
  |(refine⟨_,_,.refl,?_,rfl,rfl⟩;simp_all[DH,sh];done)|(refine⟨_,_,.refl,?_,rfl,rfl⟩;simp_all[DH,sh];omega)|(exfalso;simp_all;done)|(exfalso;simp_all;omega)| skip
def wU(b:Bool):Int:=bif b then 1 else 0
def RS{i:Nat}:∀ {ks:List Int} {s:List Bool} {k:Int},k∈ks->(k<0\/(i:Int)<=k)->iz i ks s=none
 |a::ks,s,k,ae,h=>by
  unfold iz;cases af:decide (a<0)||(decide ((i:Int)<=a)||s.getD a.toNat false)with
  |true=>rfl
  |false=>
   simp only[a5];simp only[lq,mB]at af;rcases dE.1 ae with rfl | ae
   ·rcases h with h | h
    ·exact(af.1 h).elim
    ·exact(af.2.1 h).elim
   ·exact RS ae h
def Lt{root:Int}:∀ {s:List Bool} {i j:Nat},j<s.length->(s.getD j false == decide (((i+j:Nat):Int)=root))=true->nx root i s=false
 |b::s,i,0,_,h=>by unfold nx;rw[show(b == decide ((i:Int)=root))=true by simpa using h];rfl
 |b::s,i,j+1,al,h=>by
  unfold nx;cases b == decide ((i:Int)=root)with
  |true=>rfl| false=>simp only[a5];refine Lt (j:=j) (by simpa using al) ?_;rw[show i+1+j=i+(j+1) by omega];simpa using h
def Lu{root:Int}:∀ {s:List Bool} {i:Nat},(∀ j,j<s.length->(s.getD j false == decide (((i+j:Nat):Int)=root))=false)->nx root i s=true
 |[],i,h=>rfl| b::s,i,h=>by unfold nx;have aq:=h 0 (by simp);rw[show(b == decide ((i:Int)=root))=false by simpa using aq];simp only[a5];refine Lu λj al=>?_;have:=h (j+1) (by simpa using al);rw[show i+1+j=i+(j+1) by omega];simpa using this
structure DI(t:bJ)(P:List Int)(W:Int):Prop where
 len:P.length=t.ns.length
 lF:∀ c∈P,0<=c/\c<=W
def jQ(t:bJ)(P:List Int)(rest:List Bool->Option (List Bool)):Prop:=
 (∃ s:List Bool,s.length=t.ns.length/\P=s.map wU/\gJ 0 t.ns (List.replicate t.ns.length false)=rest s) \/
 (gJ 0 t.ns (List.replicate t.ns.length false)=none/\∃ k,k<t.ns.length/\2<=P.getD k 0)
def rr(t:bJ)(i:Nat)(s:List Bool):Option (List Bool):=gJ i (t.ns.drop i) s
def tE(t:bJ)(i:Nat)(d:aP)(k:Nat)(s:List Bool):Option (List Bool):=match iz i (d.kids.drop k) s with
 |some b0=>gJ (i+1) (t.ns.drop (i+1)) b0| none=>none
def Lv(h:gJ 0 t.ns (List.replicate t.ns.length false)=none):right t=false:=by simp[right,h]
def jQ.start(t:bJ):jQ t (List.replicate t.ns.length 0) (rr t 0):=
 .inl ⟨List.replicate t.ns.length false,by simp,by simp[wU],rfl⟩
def jQ.enter(h:jQ t P (rr t i))(hi:i<t.ns.length)(aw:fits t.ns[i] t.ns[i].kids.length=true):jQ t P (tE t i t.ns[i] 0):=by
 rcases h with⟨s,U,aa,ag⟩ | h
 ·refine .inl ⟨s,U,aa,?_⟩;rw[ag,rr,dS hi,gJ,aw];rfl
 ·exact .inr h
def jQ.abf(h:jQ t P (rr t i))(hi:i<t.ns.length)(aw:fits t.ns[i] t.ns[i].kids.length=false):right t=false:=by
 refine Lv ?_;rcases h with⟨s,U,aa,ag⟩ | h
 ·rw[ag,rr,dS hi,gJ,aw];rfl
 ·exact h.1
def jQ.out{k:Nat}(h:jQ t P (tE t i d k))(ae:k<d.kids.length)(aw:d.kids[k]<0\/(i:Int)<=d.kids[k]):right t=false:=by
 refine Lv ?_;rcases h with⟨s,U,aa,ag⟩ | h
 ·rw[ag,tE,RS (k:=d.kids[k]) (by rw[dS ae];exact .head _) aw]
 ·exact h.1
def jQ.rh{k:Nat}(ay:P.length=t.ns.length)(hi:i<=t.ns.length)(h:jQ t P (tE t i d k))(ae:k<d.kids.length)(aq:0<=d.kids[k])(U:d.kids[k]<i) :
  jQ t (P.set d.kids[k].toNat (P.getD d.kids[k].toNat 0+1)) (tE t i d (k+1)):=by
 have dG:d.kids[k].toNat<P.length:=by omega
 rcases h with⟨s,aR,aV,bl⟩ | ⟨aR,j,aV,bl⟩
 ·have kw:d.kids[k].toNat<s.length:=by omega
  have ar:P.getD d.kids[k].toNat 0=wU (s.getD d.kids[k].toNat false):=by rw[aV];simp[cQ,kw]
  cases af:s.getD d.kids[k].toNat false with
  |false=>
   refine .inl ⟨s.set d.kids[k].toNat true,by simpa using aR,?_,?_⟩;·rw[ar,af,aV,List.map_set];rfl
   ·rw[bl,tE,dS ae,iz,af];simp only[Bool.or_false];rw[b8 (by omega),b8 (by omega)];rfl
  |true=>
   refine .inr ⟨?_,d.kids[k].toNat,by omega,?_⟩;·rw[bl,tE,dS ae,iz,af];simp
   ·rw[ar,af];simp[cQ,mC,dG,wU]
 ·refine .inr ⟨aR,j,aV,?_⟩;simp only[cQ,mC]at bl |-;by_cases e:d.kids[k].toNat=j
  ·subst e;simp[dG]at bl |-;omega
  ·rw[dc e];exact bl
def jQ.leave{k:Nat}(h:jQ t P (tE t i d k))(ae:d.kids.length<=k):jQ t P (rr t (i+1)):=by
 rcases h with⟨s,U,aa,ag⟩ | h
 ·refine .inl ⟨s,U,aa,?_⟩;rw[ag,tE,hc ae];rfl
 ·exact .inr h
def DI.rh{W:Int}(h:DI t P W){k:Nat}(ae:k<P.length):DI t (P.set k (P.getD k 0+1)) (W+1):=by
 refine⟨by simpa using h.len,λc aA=>?_⟩;have ar:P.getD k 0∈P:=by simp only[cQ,gu ae,iZ];exact cO ae
 have:=h.lF _ ar;rcases List.mem_or_eq_of_mem_set aA with aA | rfl
 ·have:=h.lF c aA;omega
 ·omega
def tF(t:bJ)(P:List Int)(i:Nat):Bool:=(decide ((i:Int)=t.root) && !decide (P.getD i 0=0))||(!decide ((i:Int)=t.root) && !decide (P.getD i 0=1))
def jQ.bad(h:jQ t P (rr t t.ns.length))(hi:i<t.ns.length)(aE:tF t P i=true):right t=false:=by
 rcases h with⟨s,U,aa,ag⟩ | h
 ·rw[rr,KI,gJ]at ag;have:nx t.root 0 s=false:=by
   refine Lt (j:=i) (by omega) ?_;have ar:P.getD i 0=wU (s.getD i false):=by rw[aa];simp[cQ,U,hi]
   rw[tF,ar]at aE;rw[dK];generalize s.getD i false=x at aE |-;cases x<;>cases ai:decide ((i:Int)=t.root)<;>simp_all[wU]
  simp[right,ag,this]
 ·exact Lv h.1
def jQ.r9(h:jQ t P (rr t t.ns.length))(aq:0<=t.root/\t.root<t.ns.length)(aE:∀ i,i<t.ns.length->tF t P i=false):right t=true:=by
 rcases h with⟨s,U,aa,ag⟩ | ⟨U,k,aa,ag⟩
 ·rw[rr,KI,gJ]at ag;have:nx t.root 0 s=true:=by
   refine Lu λi hi=>?_;have ar:P.getD i 0=wU (s.getD i false):=by rw[aa];simp[cQ,hi]
   have RT:=aE i (by omega);rw[tF,ar]at RT;rw[dK];generalize s.getD i false=x at RT |-;cases x<;>cases ai:decide ((i:Int)=t.root)<;>simp_all[wU]
  simp[right,ag,this,aq.1,aq.2]
 ·have:=aE k aa;simp only[tF,lq,yv,mB,GH,ft]at this;omega
def AL(au:t.ok I)(W:Nat)(gV:∀ d∈t.ns,d.kn<=W)(af:t.n*W<=1152921504606846976):Spec Tryz.prog 105 [t.val] I [] λv I' M'=>v=.bool (right t)/\I'=I/\M'=[]:=by
 refine bC [] aS Tryz.func105 rfl rfl rfl ?_;intro B aq;have kz:=au.n;have ny:=au.aU.cap;refine bo.mk (λh=>?_) (λh=>?_)
 rotate_left
 ·refine⟨_,_,.refl,?_,rfl,rfl⟩;have:t.root<0:=by simpa using h
  rw[show right t=false by simp[right];omega]
 have gY:0<=t.root:=by have:=b' h;omega
 refine aI.mk (λaa=>?_) (λaa=>?_)
 ·refine⟨_,_,.refl,?_,rfl,rfl⟩;have:=cr aa;rw[show right t=false by simp[right];omega]
 have hp:t.root<t.n:=by have:=b' aa;omega
 refine qU.mk t.n t.n rfl rfl (b6 _) (by show 8*t.n<=_;omega) (by omega) ?_;refine cz.mk λcg nr alf=>?_;refine cD.inv (ι:=Nat×List Int) (λx=>{ bA:=[(1,.ref 1 0),(3,.val (.slice (some ⟨cg,0,none⟩) t.n t.n)),(4,.val (.int .i64 x.1))],cl:=[(1,t.cells)],cj:=I,dx:=[kY cg x.2] }) (λx=>x.1<=t.n/\DI t x.2 (x.1*W:Nat)/\jQ t x.2 (rr t x.1)) (λx=>t.n-x.1) ?_ ?_
 ·refine⟨(0,List.replicate t.n 0),⟨bj _,⟨by simp[kz],λc aA=>by have:=List.eq_of_mem_replicate aA;simp only;omega⟩,by rw[<-kz];exact jQ.start t⟩,?_,da,.cons rfl .nil⟩;simp only[Ax,kY,Gm,hD];exact .refl
 rintro⟨i,P⟩⟨hi,dk,ea⟩;simp only at hi dk ea;have alg:=dk.len;refine aI.mk (λh=>?_) (λh=>?_)
 ·have aL:i<t.n:=by have:=cr h;omega
  have bi:i<t.ns.length:=by omega
  obtain⟨ad,bR,bh⟩:=au.aU.row aP.c0 aL bi;have er:t.ns[i]∈t.ns:=cO bi;have ai:=au.ns _ er;have dP:=ai.kn;have RU:=gV _ er;have abg:=ai.aU.cap;have abh:(i+1)*W<=1152921504606846976:=jB (qP W aL) af;rw[jg,nm]at abh;refine a6.mk ad i bR rfl aL ?_;refine aJ.mk _ (bh _) ?_;refine aT.mk [] _ _ (.refl _) (abe ai.k t.ns[i].kn) ?_;rintro v dQ dt -⟨rfl,rfl,rfl⟩;rw[<-dP];refine aI.mk (λag=>?_) (λag=>?_);·refine⟨_,_,.sub (dJ _) .refl,?_,rfl,rfl⟩;rw[ea.abf bi (by simpa using ag)]
  have ea:=ea.enter bi (by simpa using ag);generalize ff:t.ns[i]=d at ai dP RU abg bh ea;refine cD.inv (ι:=Nat×List Int) (λx=>{ bA:=[(1,.ref 1 0),(3,.val (.slice (some ⟨cg,0,none⟩) t.n t.n)),(4,.val (.int .i64 i)),(5,.ref 5 0),(6,.val (.int .i64 x.1))],cl:=[(1,t.cells),(5,d.cells)],cj:=dQ,dx:=[kY cg x.2] }) (λx=>x.1<=d.kn/\DI t x.2 (i*W+x.1:Nat)/\jQ t x.2 (tE t i d x.1)) (λx=>d.kn-x.1) ?_ ?_;·exact⟨(0,P),⟨bj _,dk,ea⟩,.refl,kQ,.cons rfl (.cons rfl .nil)⟩
  rintro⟨k,Q⟩⟨ae,km,rs⟩;simp only at ae km rs;have RV:=km.len;refine aI.mk (λaK=>?_) (λaK=>?_)
  ·have dG:k<d.kn:=by have:=cr aK;omega
   have jj:k<d.kids.length:=by omega
   obtain⟨ec,e6,eo⟩:=ai.aU.one dG jj;refine a6.mk ec k e6 rfl dG ?_;refine aJ.mk _ (eo _) ?_;refine bo.mk (λbg=>?_) (λbg=>?_)
   rotate_left
   ·refine⟨_,_,.sub (dJ _) .refl,?_,rfl,rfl⟩;rw[rs.out jj (.inl (by simpa using bg))]
   have fQ:0<=d.kids[k]:=by have:=b' bg;omega
   refine a6.mk ec k e6 rfl dG ?_;refine aJ.mk _ (eo _) ?_;refine aI.mk (λbD=>?_) (λbD=>?_);·refine⟨_,_,.sub (dJ _) .refl,?_,rfl,rfl⟩;rw[rs.out jj (.inr (cr bD))]
   have ys:d.kids[k]<i:=by have:=b' bD;omega
   have DJ:d.kids[k].toNat<Q.length:=by omega
   have alh:0<=Q[d.kids[k].toNat]/\Q[d.kids[k].toNat]<=(i*W+k:Nat):=km.lF _ (cO DJ);have abi:Q.getD d.kids[k].toNat 0=Q[d.kids[k].toNat]:=by simp[cQ,DJ]
   have RW:=rs.rh RV (by omega) jj fQ ys;have RX:=km.rh DJ;rw[abi]at RW RX;refine a6.mk ec k e6 rfl dG ?_;refine aJ.mk _ (eo _) ?_;refine a6.mk ⟨cg,0,none⟩ d.kids[k].toNat rfl (by omega) (by omega) ?_;refine aJ.mk _ (Kt (s:=Q) (.head _) DJ) ?_;refine aQ.mk (Q[d.kids[k].toNat]+1) (e4 rfl (by omega)) ?_;refine a6.mk ⟨cg,0,none⟩ d.kids[k].toNat rfl (by omega) (by omega) ?_;refine cX.add [] [] _ _ rfl ?_ rfl ?_;·simp only[oY,ei];show 0+d.kids[k].toNat*1+1<=_;omega
   have e:=C7 Q d.kids[k].toNat DJ (Q[d.kids[k].toNat]+1);refine aQ.mk _ (bU (i:=k) (by omega)) ?_;refine⟨(k+1,Q.set d.kids[k].toNat (Q[d.kids[k].toNat]+1)),⟨⟨by simp only;omega,?_,RW⟩,by simp only;omega⟩,?_,kQ,.cons rfl (.cons rfl .nil)⟩;·simp only;rw[show((i*W+(k+1):Nat):Int)=((i*W+k:Nat):Int)+1 by omega];exact RX
   ·simp only[kY];rw[<-e];simp only[dK,hD];exact .refl
  ·have c1:d.kn<=k:=by have:=b' aK;omega
   refine aQ.mk _ (bU (i:=i) (by omega)) ?_;refine⟨(i+1,Q),⟨⟨by simp only;omega,⟨RV,λc aA=>?_⟩,rs.leave (by omega)⟩,by simp only;omega⟩,.refl,da,.cons rfl .nil⟩;have:=km.lF c aA;simp only[jg,nm];omega
 have c1:i=t.n:=by have:=b' h;omega
 have DK:jQ t P (rr t t.ns.length):=by rw[kz,<-c1];exact ea
 clear dk h hi ea;subst c1;refine cD.inv (ι:=Nat) (λx=>{ bA:=[(1,.ref 1 0),(3,.val (.slice (some ⟨cg,0,none⟩) t.n t.n)),(7,.val (.int .i64 x))],cl:=[(1,t.cells)],cj:=I,dx:=[kY cg P] }) (λx=>x<=t.n/\∀ j,j<x->tF t P j=false) (λx=>t.n-x) ?_ ?_
 ·exact⟨0,⟨bj _,λj al=>by omega⟩,.refl,da,.cons rfl .nil⟩
 rintro i⟨hi,aE⟩;refine aI.mk (λh=>?_) (λh=>?_)
 rotate_left
 ·have c1:i=t.n:=by have:=b' h;omega
  refine⟨_,_,.sub (dJ _) .refl,?_,rfl,rfl⟩;rw[DK.r9 ⟨gY,by omega⟩ λj al=>aE j (by omega)]
 have aL:i<t.n:=by have:=cr h;omega
 have RY:i<P.length:=by omega
 have bh:bE I [kY cg P] ((⟨cg,0,none⟩:Addr).add (i*1)) 1 [.int .i64 P[i]]:=Kt (.head _) RY;have ar:P.getD i 0=P[i]:=by simp[cQ,RY]
 have AM:tF t P i=true->right t=false:=DK.bad (by omega);have AN:tF t P i=false->∀ j,j<i+1->tF t P j=false:=λh j al=>by
  by_cases e:j=i;·rw[e];exact h
  ·exact aE j (by omega)
 rw[tF,ar]at AM AN;clear h aE DK;generalize P[i]=c at AM AN bh;refine bo.mk (λh=>?_) (λh=>?_)
 ·rw[h]at AM AN;refine a6.mk ⟨cg,0,none⟩ i rfl rfl aL ?_;refine aJ.mk _ bh ?_;refine bo.mk (λaa=>?_) (λaa=>?_)
  ·refine bo.mk (λag=>?_) (λ_=>?_)
   ·exfalso;rw[h]at ag;cases ag
   ·refine aQ.mk _ (bU (i:=i) (by omega)) ?_;exact⟨i+1,⟨⟨by omega,AN (by simp[aa])⟩,by omega⟩,.refl,da,.cons rfl .nil⟩
  ·refine⟨_,_,.sub (dJ _) .refl,?_,rfl,rfl⟩;rw[AM (by simp[aa])]
 ·rw[show decide ((i:Int)=t.root)=false from h]at AM AN;refine bo.mk (λag=>?_) (λag=>?_)
  ·refine a6.mk ⟨cg,0,none⟩ i rfl rfl aL ?_;refine aJ.mk _ bh ?_;refine aI.mk (λaa=>?_) (λaa=>?_)
   ·refine⟨_,_,.sub (dJ _) .refl,?_,rfl,rfl⟩;rw[AM (by simp[aa])]
   ·refine aQ.mk _ (bU (i:=i) (by omega)) ?_;exact⟨i+1,⟨⟨by omega,AN (by simp[aa])⟩,by omega⟩,.refl,da,.cons rfl .nil⟩
  ·exfalso;rw[show decide ((i:Int)=t.root)=false from h]at ag;cases ag
structure AO(I:aN)(a:Option Addr)(c:Nat)(k:Int)(s:ByteArray):Prop where
 aU:dW I a 1 c 9 96 (DG k s).cells
def AO.mono{k:Int}{s:ByteArray}(h:AO I a c k s)(a9:∀ b o,I b=some o->I' b=some o):AO I' a c k s:=⟨h.aU.mono a9⟩
def AO.rd{k:Int}{s:ByteArray}(h:AO I a c k s):∃ ad,a=some ad/\∀ M,bE I M (ad.add (0*9)) 9 (DG k s).cells:=by have:=dW.row (f:=aP.cells) (l:=[DG k s]) aP.c0 (size:=9) (j:=0) (by simpa using h.aU) (by decide) (b6 1);simpa using this
def be.bS{o:Oper}{K:fG}(h:be X o F C I M (λF C I M=>(M.map (·.num)).Nodup->(∀ x∈M,I x.num=none)->K F C I M)):be X o F C I M K:=
 ⟨λa w Q aZ=>qQ (λbF w'=>λ⟨dI,C',I',M',⟨β,an⟩,ae⟩=>⟨dI,C',I',M',⟨β,an⟩,ae an.holds.bS an.holds.d⟩) (h.1 a w Q aZ)⟩
abbrev ru:=bJ×Int×ByteArray
def ru.bS(x:ru):aP:=DG x.2.1 x.2.2
structure ru.ok(I:aN)(x:ru):Prop where
 t:x.1.ok I
 ns:x.1.ns=[x.bS]
 root:x.1.root=0
 fits:aba x.bS 0=true
def ru.ok.mono{x:ru}(h:ru.ok I x)(a9:∀ b o,I b=some o->I' b=some o):ru.ok I' x:=⟨h.t.mono a9,h.ns,h.root,h.fits⟩
def ru.ok.at{x:ru}(h:ru.ok I x):∃ a c,x.1.cells=[.slice a 1 c,.int .i64 0]/\AO I a c x.2.1 x.2.2:=by obtain⟨⟨ns,a,n,c,root⟩,k,s⟩:=x;obtain⟨au,U,aa,ag⟩:=h;have h4:ns=[DG k s]:=U;clear U ag;simp only at aa au;subst h4;subst aa;have av:=au.n;simp only[c5,eY]at av;subst av;exact⟨a,c,rfl,⟨by simpa[ru.bS]using au.aU⟩⟩
def RZ(ns:List aP):Nat->List Int->List Int->List Int
 |0,_,b=>b
 |f+1,todo,b=>match todo.getLast? with
  |none=>b| some n=>RZ ns f (todo.dropLast++(nodeAt ns n.toNat).kids) (b++[n])
def abj(ns:List aP)(node:Int):List Int:=RZ ns (ns.length+1) [node] []
def aP.cJ(d:aP):aP:=⟨d.k,d.eh,d.s1,d.s2,d.fJ,d.t,d.lo,d.hi,none,0,0,d.kids⟩
def aP.Lw(d:aP)(l:List Int):aP:=⟨d.k,d.eh,d.s1,d.s2,d.fJ,d.t,d.lo,d.hi,none,0,0,l⟩
def abk(ns:List aP)(aB:List Int×List aP)(b:Int):List Int×List aP:=
 (aB.1.set b.toNat aB.2.length,aB.2++[(nodeAt ns b.toNat).Lw ((nodeAt ns b.toNat).kids.map λk=>(aB.1.set b.toNat aB.2.length).getD k.toNat 0)])
def abl(ns:List aP)(node:Int):List aP:=((abj ns node).reverse.foldl (abk ns) (List.replicate ns.length 0,[])).2
structure Fit(t:bJ)(W:Nat):Prop where
 w:∀ d∈t.ns,d.kn<=W
 b:t.n*W<=1152921504606846976
 n:t.n<=1099511627776
def bE.mono{a:Addr}{n:Nat}(h:bE I M a n vs)(a9:∀ b o,I b=some o->I' b=some o):bE I' M a n vs:=by obtain⟨U,cs,T,aj,aa,ag⟩:=h;exact⟨U,cs,T,aj,aa.imp (a9 _ _) id,ag⟩
def bE.sub{I:aN}{M M':List aC}{a:Addr}{n:Nat}{vs:List Value}(h:bE I M a n vs)(a7:∀ x∈M,x∈M'):bE I M' a n vs:=by obtain⟨U,cs,T,aj,aa,ag⟩:=h;refine⟨U,cs,T,aj,aa.imp id ?_,ag⟩;rintro⟨x,ab,ax,az⟩;exact⟨x,a7 x ab,ax,az⟩
def R0(aB:List aP×List Int)(l:List aP):List aP×List Int:=
 (aB.1++l.map (λx=>x.Lw (x.kids.map λk=>(aB.1.length:Int)+k)),aB.2++[((aB.1.length+l.length:Nat):Int)-1])
def abm(d:aP)(G':List (List aP)):List aP:=(G'.foldl R0 ([],[])).1++[d.Lw (G'.foldl R0 ([],[])).2]
section
variable{X:cx}{β:Nat->Nat}{a:Act}{w:World}{F:Fr}{C:c7}{I:aN}{M:List aC}{o:Oper}{Q:Exit->Act->World->Prop}{K:fG}
end
def AP:List (ByteArray×Int)->Nat->List a'->List (ByteArray×Int)
 |acc,_,[]=>acc| acc,i,d::ds=>AP (bif (hg d.name acc).isSome then acc else acc++[(d.name,(i:Int))]) (i+1) ds
def l7(ds:List a'):List (ByteArray×Int):=AP [] 0 ds
def bn.zero{os:bn}{size:Nat}{xs:List Value}(h:os.ok size xs):bn.ok ⟨os.a,0,os.c,os.cur⟩ size []:=by refine⟨by simp,λaD=>⟨rfl,(h.nil aD).2⟩,λg ar=>?_⟩;obtain⟨U,aa,ag,aK⟩:=h.cap g ar;exact⟨U,bj _,ag,by simp⟩
def Ha(pl:List (ByteArray×Int))(bA acc:List bp)(d:aP):List bp:=
 d.kids.map (λk=>acc.getD k.toNat gL)++bif decide (d.k=3)then [bA.getD ((hg d.t pl).getD 0).toNat gL]else []
def ry(pl:List (ByteArray×Int))(bA:List bp):List aP->List bp->List bp
 |[],acc=>acc| d::ds,acc=>ry pl bA ds (acc++[DF d (Ha pl bA acc d)])
end Go.V
