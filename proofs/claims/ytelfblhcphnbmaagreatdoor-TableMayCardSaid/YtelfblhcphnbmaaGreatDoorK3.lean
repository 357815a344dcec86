/- Part 3 of what the proofs of this seat share: the executor, data in memory, walks.
-/
import Derived.Test.YtelfblhcphnbmaaGreatDoorK2
import Derived.WideMake
import Derived.ChangeSame
import Derived.ChangeArms
import Derived.OpenShut
import Derived.Deep.DeepHandedRow
import Derived.Lib.LaidTab
import Derived.Test.YtelfblhcphnbmaaGreatDoorRows
import Derived.Test.YtelfblhcphnbmaaGreatDoorCards
import Derived.Test.YtelfblhcphnbmaaGreatDoorTie
import Derived.WalkKit
import Derived.ProofKit
import Derived.WideKeyArgs
import Derived.Below
import Derived.JoinedOf
set_option linter.all false
set_option maxHeartbeats 8000000
namespace Go.V
open Go Go.Proofs
def bk:=@Nat.zero_le
def b4:=@decide_eq_false
def dj:=@of_decide_eq_false
def e7:=@decide_eq_true
def m0:=@Option.some.inj
def su:=@Nat.add_sub_cancel'
def sv:=@Bool.eq_false_iff
def vC:=@List.getElem_of_mem
def sw:=@List.cons.injEq
def Bt:=@MapKept.run_getObj_map
def xn:=@Nat.min_le_right
def Bu:=@ByteArray.size_append
def zd:=@Nat.add_right_comm
def Bv:=@MapKept.run_checkKey
def Bw:=@MapKept.run_findKey
def Bx:=@Bool.not_eq_false'
def vD:=@List.map_map
def Eu:=@Int.ofNat_eq_natCast
def Ev:=@List.mem_of_mem_take
def By:=@List.all_append
def H9:=@MapKept.run_setObj_map
def Ew:=@DataW.trod_string
def H':=@Bool.and_eq_false_iff
def Ia:=@List.all_eq_false
def Ib:=@List.flatten_cons
def Ic:=@DataW.trod_array
def Ie:=@List.sum_append
variable{d:a1}{hi:Int}{P:Program}{t:db}{x y:Operand}{I I':aN}{i j sz size fuel base pl:Nat}{deb:List Int}{g:c1}{w:Bool}{F:Fr}{C:cG}{M:List aC}{vs cs:List Value}{α:Type}{X:b'}{cP Bz:dw}{v:Value}{m:List Bool}{L:List (List Int)}{W ht:World}{bK:Array Field}{rows:List (List Value)}{p:List MemPlace}
structure Ex(d:a1):Prop where
 k:d.k<10
 t:d.t.size<=255
 la:d.k=6->0<=d.lo/\d.lo<=99/\(d.hi=-1\/(d.lo<=d.hi/\d.hi<=99))
def Ot{n:Int}(h:fits d n=true):Ex d:=by
 unfold fits at h;cases aa:decide (10<=d.k)with
 |true=>rw[aa]at h;cases h
 |false=>
  rw[aa]at h;simp only[aY]at h;have af:d.k<10:=by simpa using aa
  cases ab:(decide (n<vp d.k.toNat)||(decide (0<=qU d.k.toNat)&&decide (qU d.k.toNat<n)))with
  |true=>rw[ab]at h;cases h
  |false=>
   rw[ab]at h;simp only[aY]at h;have bT:d.t=⟨#[]⟩->d.t.size<=255:=λe=>by rw[e];decide
   cases ai:decide (d.k=1)with
   |true=>rw[ai]at h;simp only[aZ,bG,eC]at h;exact⟨af,bT h.1,λe=>by simp at ai;omega⟩
   |false=>
    rw[ai]at h;simp only[aY]at h;cases aQ:decide (d.k=2)with
    |true=>rw[aQ]at h;simp only[aZ,bG,mK,nU,oP]at h;exact⟨af,by omega,λe=>by simp at aQ;omega⟩
    |false=>
     rw[aQ]at h;simp only[aY]at h;cases bp:(decide (d.k=3)||decide (d.k=9))with
     |true=>rw[bp]at h;simp only[aZ,bG]at h;refine⟨af,?_,λe=>by simp at bp;omega⟩;have:=h.1;unfold iH at this;simp only[bG,eC]at this;omega
     |false=>
      rw[bp]at h;simp only[aY]at h;cases bM:decide (d.k=6)with
      |true=>
       rw[bM]at h;simp only[aZ,bG,eC,mK,nU,oP,H']at h;refine⟨af,bT h.2.2,λ_=>?_⟩;obtain⟨⟨aO,aP,br⟩,_⟩:=h;refine⟨by omega,by omega,?_⟩;rcases br with br | br
       ·left
        simpa using br
       ·right
        omega
      |false=>rw[bM]at h;simp only[aY,bG,eC]at h;exact⟨af,bT h.2.1,λe=>by simp at bM;omega⟩
def BA:List Value:=[.int .i64 0,.int .i64 1,.string ⟨#[63]⟩,.int .i64 0,.int .i64 (-1),.string ⟨#[42]⟩,.int .i64 1,.int .i64 (-1),.string ⟨#[43]⟩]
def If(I:aN):Prop:=∃ T aj,I 3=some (.cells BA.toArray T aj)
def xo(lo:Nat)(hi:Int):List UInt8:=
 bif decide (hi=lo)then [123]++kE lo++[125]else
 bif decide (hi=-1)then [123]++kE lo++[44,125]else [123]++kE lo++[44]++kE hi.toNat++[125]
def p7(lo:Nat)(hi:Int):List UInt8:=
 bif decide ((0:Int)=lo)&&decide (1=hi)then [63]else
 bif decide ((0:Int)=lo)&&decide (-1=hi)then [42]else
 bif decide ((1:Int)=lo)&&decide (-1=hi)then [43]else xo lo hi
def WQ(lo:Nat)(hi:Int):(xo lo hi).length<=7:=by
 have aa:=Bo lo;have ab:=Bo hi.toNat;unfold xo;cases decide (hi=lo)<;>cases decide (hi=-1)<;>simp<;>omega
def WR(lo:Nat)(hi:Int):(p7 lo hi).length<=7:=by
 have aa:=WQ lo hi;unfold p7;cases(decide ((0:Int)=lo)&&decide (1=hi))<;>cases(decide ((0:Int)=lo)&&decide (-1=hi))<;>cases(decide ((1:Int)=lo)&&decide (-1=hi))<;>simp<;>omega
def Ou(n:Nat):(vv n).size<=2:=Bo n
def m1(lo hi:Int):a1:=⟨6,0,0,0,0,⟨#[]⟩,lo,hi,none,0,0,[]⟩
def WS{lo:Nat}(dJ:lo<=99)(er:hi=-1\/((lo:Int)<=hi/\hi<=99)):fits (m1 lo hi) 1=true:=by
 have ax:vp 6=1:=by decide
 have aA:qU 6=1:=by decide
 rcases er with rfl | ⟨aa,ab⟩
 ·simp[fits,m1,ax,aA,a1.oW];exact⟨b4 (by omega),b4 (by omega)⟩
 ·simp[fits,m1,ax,aA,a1.oW];exact⟨b4 (by omega),b4 (by omega),.inr ⟨b4 (by omega),b4 (by omega)⟩⟩
def WT(a b:List UInt8):strOf a++strOf b=strOf (a++b):=by apply y';simp[strOf]
def fk.vE{t:Nat}{a b:List UInt8}(aq:a.length+b.length<=9223372036854775807){V:Value->Prop}{other:Prop}(h:V (.string (strOf (a++b)))):fk P .add t x y (.val (.string (strOf a))) (.val (.string (strOf b))) V other:=
 fk.concat (a:=strOf a) (b:=strOf b) aq (by rw[WT];exact h)
def WU(aF:nZ I)(aH:If I)(lo:Nat)(hi:Int)(dJ:lo<=99)(er:hi=-1\/((lo:Int)<=hi/\hi<=99)):Spec Tryz.prog 230 [.int .i64 lo,.int .i64 hi] I []
  λr I' M'=>r=.string (strOf (p7 lo hi))/\I'=I/\M'=[]:=by
 refine b8 [] aT Tryz.func230 rfl rfl rfl ?_;intro B au;have aW:(m1 lo hi).ok I:=⟨by simp[m1],by simp[m1,fB],by simp[m1,fB],by simp[m1,fB],by simp[m1,fB],by show(0:Nat)<=_;omega,⟨by simp only[m1];omega,by simp only[m1];omega⟩,⟨by simp only[m1];omega,by simp only[m1];omega⟩,⟨rfl,⟨bS _,by simp[m1]⟩,.inl rfl⟩,by simp[m1]⟩;refine a7.mk [] [] _ (.refl _) (NP aF aW 1) ?_;rintro v I' M' -⟨rfl,rfl,rfl⟩;rw[WS dJ er];refine aR.mk (λh=>by cases h) (λ_=>?_);have bD:ck I' ([]++[]) ⟨3,0,none⟩ 9 BA:=by obtain⟨T,aj,aH⟩:=aH;exact⟨rfl,_,T,aj,.inl aH,rfl,rfl⟩
 refine aM.mk _ bD ?_;refine dh.inv (ι:=Nat) (λi=>{ ca:=[(0,.val (.int .i64 lo)),(1,.val (.int .i64 hi)),(12,.val (.agg BA.toArray)),(13,.val (.int .i64 i))],cQ:=I' }) (λi=>i<=3/\(1<=i->(decide ((0:Int)=lo)&&decide (1=hi))=false)/\(2<=i->(decide ((0:Int)=lo)&&decide (-1=hi))=false)/\(3<=i->(decide ((1:Int)=lo)&&decide (-1=hi))=false)) (λi=>3-i) ?_ ?_
 ·exact⟨0,⟨by simp,by simp,by simp,by simp⟩,.refl,ez,.nil⟩
 ·rintro i⟨hs,cy,m2,xp⟩
  match i,hs with
  |0,_=>
   refine aR.mk (λ_=>?_) (λh=>by simp at h);refine ed.mk 0 rfl (by decide) ?_;have next:(decide ((0:Int)=lo)&&decide (1=hi))=false->(((0+1:Nat)<=3/\(1<=(0+1:Nat)->(decide ((0:Int)=lo)&&decide (1=hi))=false)/\(2<=(0+1:Nat)->(decide ((0:Int)=lo)&&decide (-1=hi))=false)/\(3<=(0+1:Nat)->(decide ((1:Int)=lo)&&decide (-1=hi))=false))/\3-(0+1)<3-0):=λh=>by
    refine⟨⟨by simp,λ_=>?_,λa4=>?_,λa4=>?_⟩,by simp⟩;·exact h
    ·simp at a4
    ·simp at a4
   refine bC.mk (λaO=>?_) (λaO=>?_)
   ·refine aR.mk (λaP=>?_) (λaP=>?_)
    ·refine⟨_,_,.refl,?_,rfl,rfl⟩;have:p7 lo hi=[63]:=by unfold p7;rw[aO,aP];rfl
     rw[this];rfl
    ·refine a6.mk 1 (by decide) ?_;exact⟨1,next (by rw[aO,aP];rfl),.refl,ez,.nil⟩
   ·refine a6.mk 1 (by decide) ?_;exact⟨1,next (by rw[aO];rfl),.refl,ez,.nil⟩
  |1,_=>
   refine aR.mk (λ_=>?_) (λh=>by simp at h);refine ed.mk 1 rfl (by decide) ?_;have next:(decide ((0:Int)=lo)&&decide (-1=hi))=false->(((1+1:Nat)<=3/\(1<=(1+1:Nat)->(decide ((0:Int)=lo)&&decide (1=hi))=false)/\(2<=(1+1:Nat)->(decide ((0:Int)=lo)&&decide (-1=hi))=false)/\(3<=(1+1:Nat)->(decide ((1:Int)=lo)&&decide (-1=hi))=false))/\3-(1+1)<3-1):=λh=>by
    refine⟨⟨by simp,λ_=>?_,λa4=>?_,λa4=>?_⟩,by simp⟩;·exact cy (by decide)
    ·exact h
    ·simp at a4
   refine bC.mk (λaO=>?_) (λaO=>?_)
   ·refine aR.mk (λaP=>?_) (λaP=>?_)
    ·refine⟨_,_,.refl,?_,rfl,rfl⟩;have:p7 lo hi=[42]:=by unfold p7;rw[cy (by decide),aO,aP];rfl
     rw[this];rfl
    ·refine a6.mk 2 (by decide) ?_;exact⟨2,next (by rw[aO,aP];rfl),.refl,ez,.nil⟩
   ·refine a6.mk 2 (by decide) ?_;exact⟨2,next (by rw[aO];rfl),.refl,ez,.nil⟩
  |2,_=>
   refine aR.mk (λ_=>?_) (λh=>by simp at h);refine ed.mk 2 rfl (by decide) ?_;have next:(decide ((1:Int)=lo)&&decide (-1=hi))=false->(((2+1:Nat)<=3/\(1<=(2+1:Nat)->(decide ((0:Int)=lo)&&decide (1=hi))=false)/\(2<=(2+1:Nat)->(decide ((0:Int)=lo)&&decide (-1=hi))=false)/\(3<=(2+1:Nat)->(decide ((1:Int)=lo)&&decide (-1=hi))=false))/\3-(2+1)<3-2):=λh=>by
    refine⟨⟨by simp,λ_=>?_,λa4=>?_,λa4=>?_⟩,by simp⟩;·exact cy (by decide)
    ·exact m2 (by decide)
    ·exact h
   refine bC.mk (λaO=>?_) (λaO=>?_)
   ·refine aR.mk (λaP=>?_) (λaP=>?_)
    ·refine⟨_,_,.refl,?_,rfl,rfl⟩;have:p7 lo hi=[43]:=by unfold p7;rw[cy (by decide),m2 (by decide),aO,aP];rfl
     rw[this];rfl
    ·refine a6.mk 3 (by decide) ?_;exact⟨3,next (by rw[aO,aP];rfl),.refl,ez,.nil⟩
   ·refine a6.mk 3 (by decide) ?_;exact⟨3,next (by rw[aO];rfl),.refl,ez,.nil⟩
  |3,_=>
   refine aR.mk (λh=>by simp at h) (λ_=>?_);have ax:=cy (by decide);have aA:=m2 (by decide);have bj:=xp (by decide);have gT:p7 lo hi=xo lo hi:=by unfold p7;rw[ax,aA,bj];rfl
   rw[gT];have vF:=Ou lo;have Hh:=Ou hi.toNat;have vF:=Bo lo;refine aR.mk (λh=>?_) (λh=>?_);·refine a7.mk [] [] _ (.refl _) (Er lo (by omega)) ?_;rintro v I' M' -⟨rfl,rfl,rfl⟩;refine fk.vE (a:=[123]) (b:=kE lo) (by simp;omega) ?_;refine fk.vE (a:=[123]++kE lo) (b:=[125]) (by simp;omega) ?_;refine⟨_,_,.refl,?_,rfl,rfl⟩;rw[xo,h];rfl
   ·refine aR.mk (λk=>?_) (λk=>?_)
    ·refine a7.mk [] [] _ (.refl _) (Er lo (by omega)) ?_;rintro v I' M' -⟨rfl,rfl,rfl⟩;refine fk.vE (a:=[123]) (b:=kE lo) (by simp;omega) ?_;refine fk.vE (a:=[123]++kE lo) (b:=[44,125]) (by simp;omega) ?_;refine⟨_,_,.refl,?_,rfl,rfl⟩;rw[xo,h,k];rfl
    ·refine a7.mk [] [] _ (.refl _) (Er lo (by omega)) ?_;rintro v I' M' -⟨rfl,rfl,rfl⟩;have af:hi≠-1:=by simpa using k
     obtain⟨aw,rfl⟩:=qM (show 0<=hi by omega);have Hh:=Bo aw;refine fk.vE (a:=[123]) (b:=kE lo) (by simp;omega) ?_;refine fk.vE (a:=[123]++kE lo) (b:=[44]) (by simp;omega) ?_;refine a7.mk [] [] _ (.refl _) (Er aw (by omega)) ?_;rintro v I' M' -⟨rfl,rfl,rfl⟩;refine fk.vE (a:=[123]++kE lo++[44]) (b:=kE aw) (by simp;omega) ?_;refine fk.vE (a:=[123]++kE lo++[44]++kE aw) (b:=[125]) (by simp;omega) ?_;refine⟨_,_,.refl,?_,rfl,rfl⟩;rw[xo,h,k];rfl
def q2:List (List UInt8):=[[],[],[],[],[],[],[],[],[],[],[],[],[],[32],[],[],[32,47,32],[],[],[],[],[38],[],[],[33],[],[],[60],[],[62]]
def o1(j:Nat):List UInt8:=q2.getD j []
def BB(I:aN):Prop:=∃ T aj,I 1=some (.cells (q2.map λl=>Value.string (strOf l)).toArray T aj)
def BB.rd(h:BB I)(M:List aC)(ar:i+j<30):ck I M ((Addr.add ⟨1,0,none⟩ i).add j) 1 [.string (strOf (o1 (i+j)))]:=by
 obtain⟨T,aj,h⟩:=h;rw[vA,dx _ rfl];refine⟨rfl,_,T,aj,.inl h,?_,rfl⟩;have aa:i+j<(q2.map λl=>Value.string (strOf l)).length:=by simp[q2];omega
 have ab:i+j<q2.length:=by simp[q2];omega
 simp only[dG];rw[fs aa,qN,qP];simp[o1,dT,ab]
def BC(j:Nat):(o1 j).length<=3:=by
 by_cases h:j<30
 ·have:∀ j:Fin 30,(o1 j.val).length<=3:=by decide
  exact this ⟨j,h⟩
 ·have:q2.length<=j:=by simp[q2];omega
  simp[o1,dT,this]
def o2(deb:List Int)(d:a1):List UInt8:=
 bif decide (d.k=0)||decide (d.k=2)then Br d.t else
 bif decide (d.k=1)then xm deb d.fT d.s1 d.s2 d.gv else
 bif decide (d.k=3)then d.t.data.toList else
 bif decide (d.k=9)then o1 27++d.t.data.toList++[58,32]else o1 (d.k.toNat*3)
def m3(d:a1):List UInt8:=bif decide (d.k=6)then p7 d.lo.toNat d.hi else o1 (d.k.toNat*3+2)
def WV(s:ByteArray):strOf s.data.toList=s:=y' (by simp[strOf])
def Ig(aF:nZ I)(aH:If I)(Ey:BB I)(ak:d.ok I)(aD:Ex d):Spec Tryz.prog 210 [d.val] I [] λr I' M'=>r=.string (strOf (m3 d))/\I'=I/\M'=[]:=by
 refine b8 [] aT Tryz.func210 rfl rfl rfl ?_;intro B au;refine aR.mk (λh=>?_) (λh=>?_)
 ·obtain⟨aO,aP,br⟩:=aD.la (by simpa using h);have ax:d.lo=((d.lo.toNat:Nat):Int):=by omega
  have jF:=WU aF aH d.lo.toNat d.hi (by omega) (by omega);rw[<-ax]at jF;refine a7.mk [] [] _ (.refl _) jF ?_;rintro v I' M' -⟨rfl,rfl,rfl⟩;refine⟨_,_,.refl,?_,rfl,rfl⟩;simp only[m3,h];rfl
 ·have af:=ak.k;have zb:=aD.k;refine ed.mk d.k.toNat (by omega) (by omega) ?_;refine aM.mk _ (Ey.rd _ (by show d.k.toNat*3+2<30;omega)) ?_;refine⟨_,_,.refl,?_,rfl,rfl⟩;simp only[m3,h];rfl
def Ov(xi:oZ I deb)(Ey:BB I)(ak:d.ok I)(aD:Ex d):Spec Tryz.prog 208 [d.val] I []
  λr I' M'=>r=.string (strOf (o2 deb d))/\(∀ b o,I b=some o->I' b=some o)/\M'=[]:=by
 refine b8 [] aT Tryz.func208 rfl rfl rfl ?_;intro B au;have af:=ak.k;have zb:=aD.k;have az:=aD.t;have lit:(decide (d.k=0)||decide (d.k=2))=true->o2 deb d=Br d.t:=λh=>by simp only[o2,h];rfl
 refine aR.mk (λaa=>?_) (λaa=>?_)
 ·refine aR.mk (λ_=>?_) (λh=>by rw[aa]at h;cases h);refine a7.mk [] [] _ (.refl _) (Om d.t (by omega)) ?_;rintro v I' M' -⟨rfl,rfl,rfl⟩;refine⟨_,_,.refl,?_,λ_ _ h=>h,rfl⟩;rw[lit (by rw[aa];rfl)]
 ·refine aR.mk (λab=>?_) (λab=>?_)
  ·refine a7.mk [] [] _ (.refl _) (Om d.t (by omega)) ?_;rintro v I' M' -⟨rfl,rfl,rfl⟩;refine⟨_,_,.refl,?_,λ_ _ h=>h,rfl⟩;rw[lit (by rw[ab];simp)]
  ·refine aR.mk (λai=>?_) (λai=>?_)
   ·refine a7.mk [] [] _ (.refl _) (WO xi (a:=d.fT) (b:=d.s1) (c:=d.s2) (d:=d.gv) (λx ae=>by
     simp only[dv,List.not_mem_nil,or_false]at ae;rcases ae with rfl | rfl | rfl | rfl;·exact ak.fT
     ·exact ak.s1
     ·exact ak.s2
     ·exact ak.gv)) ?_
    rintro v I' M' -⟨rfl,a',rfl⟩;refine⟨_,_,.refl,?_,a',rfl⟩;simp only[o2,aa,ab,ai];rfl
   ·refine aR.mk (λaQ=>?_) (λaQ=>?_)
    ·refine⟨_,_,.refl,?_,λ_ _ h=>h,rfl⟩;simp only[o2,aa,ab,ai,aQ];rw[<-WV d.t];rfl
    ·refine aR.mk (λbp=>?_) (λbp=>?_)
     ·have Ih:d.k=9:=by simpa using bp
      refine cX.draw aT rfl rfl rfl ?_;refine ed.mk 9 Ih (by decide) ?_;refine aM.mk _ (Ey.rd _ (by decide)) ?_;have gH:(strOf (o1 27)).size=1:=by decide
      refine fk.concat (a:=strOf (o1 27)) (b:=d.t) (by omega) ?_;refine fk.concat (a:=strOf (o1 27)++d.t) (b:=strOf [58,32]) (by rw[Bu];show _+2<=_;omega) ?_;refine⟨_,_,.refl,?_,λ_ _ h=>h,rfl⟩;simp only[o2,aa,ab,ai,aQ,bp];refine congrArg Value.string (y' ?_);simp[strOf]
     ·refine ed.mk d.k.toNat (by omega) (by omega) ?_;refine aM.mk _ (Ey.rd _ (by show d.k.toNat*3+0<30;omega)) ?_;refine⟨_,_,.refl,?_,λ_ _ h=>h,rfl⟩;simp only[o2,aa,ab,ai,aQ,bp];rfl
def lO(ns:List a1)(k:Int):Int:=(ns.map (·.k)).getD k.toNat 0
def paren(w:Bool)(s:List UInt8):List UInt8:=(bif w then [40]else [])++(s++(bif w then [41]else []))
def sy(sep:List UInt8)(f:Int->List UInt8):Bool->List Int->List UInt8
 |_,[]=>[]| b,k::ks=>(bif b then sep else [])++(f k++sy sep f true ks)
def BD(d:a1):List UInt8:=o1 (d.k.toNat*3+1)
def BE(deb:List Int)(ns:List a1)(d:a1)(g:Int->List UInt8):List UInt8:=
 o2 deb d++(sy (BD d) (λk=>paren (fM d.k (lO ns k)) (g k)) false d.kids++m3 d)
def kI(deb:List Int)(ns:List a1):Int->List UInt8:=Bk [] (BE deb ns) ns
def n7(deb:List Int)(t:db):List UInt8:=bif right t then kI deb t.ns t.root else []
def Ow{sep:List UInt8}{f g:Int->List UInt8}:∀ {ks:List Int} {b:Bool},(∀ k∈ks,f k=g k)->sy sep f b ks=sy sep g b ks
 |[],b,_=>rfl| k::ks,b,h=>by unfold sy;rw[h k (by simp),Ow λx ae=>h x (by simp[ae])]
def Ox(ao:right t=true)(ar:j<t.ns.length):kI deb t.ns j=BE deb t.ns t.ns[j] (kI deb t.ns):=by refine NY (λd g c5 h=>?_) ao ar;unfold BE;rw[Ow λk af=>by rw[h k af]]
def WW(w:Bool)(s:List UInt8):(paren w s).length<=s.length+2:=by cases w<;>simp[paren]
def Oy{sep:List UInt8}{f:Int->List UInt8}(aq:sep.length<=3){g:Int->Nat}(aD:∀ k,(f k).length+3<=g k):∀ {ks:List Int} {b:Bool},(sy sep f b ks).length<=lK g ks
 |[],b=>by simp[sy,lK]
 |k::ks,b=>by
  have aa:=Oy aq aD (ks:=ks) (b:=true);have ab:=aD k;unfold sy;simp only[cD,lK,eh,sc]at aa |-;cases b<;>simp<;>omega
def Ii(deb:List Int)(aD:Ex d):(o2 deb d).length<=2400:=by
 have aa:(Br d.t).length<=2+4*d.t.size:=by have:=Bs (lL · xl) 4 (λc=>Bn c xl) d.t.data.toList;have ab:d.t.data.toList.length=d.t.size:=rfl;simp only[Br,cD,du,iF];omega
 have ab:=WN deb d.fT d.s1 d.s2 d.gv;have ai:=aD.t;have aQ:=BC 27;have bp:=BC (d.k.toNat*3);have bM:d.t.data.toList.length=d.t.size:=rfl;unfold o2;cases(decide (d.k=0)||decide (d.k=2))<;>cases decide (d.k=1)<;>cases decide (d.k=3)<;>cases decide (d.k=9)<;>simp only[aZ,aY,cD,du,iF]<;>omega
def Ez(d:a1):(m3 d).length<=7:=by
 have aa:=WR d.lo.toNat d.hi;have ab:=BC (d.k.toNat*3+2);unfold m3;cases decide (d.k=6)<;>simp only[aZ,aY]<;>omega
def Ij{α:Type}(c:Nat):∀ l:List α,(l.map λ_=>c).sum=c*l.length
 |[]=>by simp
 |x::l=>by rw[eh,sc,Ij c l,du,Nat.mul_add];omega
def Oz(ao:right t=true):(kI deb t.ns t.root).length+5<=2412*t.ns.length:=by
 have h:=N5 ao (g:=λk=>(kI deb t.ns k).length+5) (c:=λ_=>2412) λj ar=>by rw[Ox ao ar];have aa:=Ii deb (Ot (N6 ao ar));have ab:=Ez t.ns[j];have ai:=Oy (sep:=BD t.ns[j]) (BC _) (f:=λk=>paren (fM t.ns[j].k (lO t.ns k)) (kI deb t.ns k)) (g:=λk=>(kI deb t.ns k).length+5) (λk=>by have:=WW (fM t.ns[j].k (lO t.ns k)) (kI deb t.ns k);omega) (ks:=t.ns[j].kids) (b:=false);unfold BE;simp only[cD];omega
 rw[Ij]at h;exact h
def OA(deb:List Int)(t:db):(n7 deb t).length<=2412*t.ns.length:=by
 unfold n7;cases ao:right t with
 |false=>simp| true=>have:=Oz (deb:=deb) ao;simp only[aZ];omega
abbrev Open:=Nat×Nat×Bool
def kJ(e:Open):List Value:=[.int .i64 e.1,.int .i64 e.2.1,.bool e.2.2]
def nodeAt(ns:List a1)(j:Nat):a1:=ns.getD j ⟨0,0,0,0,0,.empty,0,0,none,0,0,[]⟩
def Ik(deb:List Int)(ns:List a1)(d:a1)(k:Int):List UInt8:=paren (fM d.k (lO ns k)) (kI deb ns k)
def lP(deb:List Int)(ns:List a1)(e:Open):List UInt8:=bif decide ((e.2.1:Int)=0)then(bif e.2.2 then [40]else [])++o2 deb (nodeAt ns e.1)else []
def q3(deb:List Int)(ns:List a1)(e:Open):List UInt8:=
 lP deb ns e++(sy (BD (nodeAt ns e.1)) (Ik deb ns (nodeAt ns e.1)) (decide (0<(e.2.1:Int))) ((nodeAt ns e.1).kids.drop e.2.1)++(m3 (nodeAt ns e.1)++(bif e.2.2 then [41]else [])))
def vG(ns:List a1):Int->Nat:=Bk 0 (λd g=>2+lK g d.kids) ns
def lb(ns:List a1)(e:Open):Nat:=1+lK (vG ns) ((nodeAt ns e.1).kids.drop e.2.1)
def sA(ns:List a1)(ap:List Open):Nat:=(ap.map (lb ns)).sum
def q4(deb:List Int)(ns:List a1)(ap:List Open):List UInt8:=ap.reverse.flatMap (q3 deb ns)
def xq(deb:List Int)(ns:List a1)(ap:List Open)(e:Open):q4 deb ns (ap++[e])=q3 deb ns e++q4 deb ns ap:=by simp[q4]
def o3(ns:List a1)(ap:List Open)(e:Open):sA ns (ap++[e])=sA ns ap+lb ns e:=by simp[sA]
def OB(ns:List a1):∀ ap:List Open,ap.length<=sA ns ap
 |[]=>by simp
 |e::ap=>by have:=OB ns ap;simp only[sA,eh,sc,du,lb]at this |-;omega
def q5{ns:List a1}(h:j<ns.length):nodeAt ns j=ns[j]:=by simp[nodeAt,dT,h]
def WX{g c5:Int->Nat}{ks:List Int}(h:∀ k∈ks,g k=c5 k):lK g ks=lK c5 ks:=by unfold lK;rw[D' h]
def OC(ao:right t=true)(ar:j<t.ns.length):vG t.ns j=2+lK (vG t.ns) t.ns[j].kids:=
 NY (λd g c5 h=>by rw[WX h]) ao ar
def WY(ao:right t=true):vG t.ns t.root<=2*t.ns.length:=by
 have:=N5 ao (g:=vG t.ns) (c:=λ_=>2) λj ar=>by rw[OC ao ar];exact bS _
 rwa [Ij]at this
def OD(ao:right t=true)(ar:j<t.ns.length)(w:Bool):q3 deb t.ns (j,0,w)=paren w (kI deb t.ns j):=by rw[Ox ao ar];simp only[q3,lP,q5 ar];cases w<;>simp[paren,BE,Ik]<;>rfl
def OE(ao:right t=true)(ar:j<t.ns.length)(w:Bool):lb t.ns (j,0,w)+1=vG t.ns j:=by rw[OC ao ar];simp[lb,q5 ar];omega
def Il(ao:right t=true)(ar:j<t.ns.length)(hi:i<t.ns[j].kids.length) :
  q3 deb t.ns (j,i,w)=lP deb t.ns (j,i,w)++((bif decide (0<(i:Int))then BD t.ns[j]else [])++(q3 deb t.ns (t.ns[j].kids[i].toNat,0,fM t.ns[j].k (lO t.ns t.ns[j].kids[i]))++q3 deb t.ns (j,i+1,w))):=by
 have af:=sp ao j ar _ (dR hi);rw[OD ao (by omega)];have ax:(((t.ns[j].kids[i].toNat:Nat):Int))=t.ns[j].kids[i]:=w5 af.1;rw[ax];have ak:=fs hi;simp only[q3,q5 ar];rw[ak];have aA:lP deb t.ns (j,i+1,w)=[]:=by have:decide (((i+1:Nat):Int)=0)=false:=b4 (by omega);simp only[lP,this,aY]
 have bj:decide (0<((i+1:Nat):Int))=true:=e7 (by omega);rw[aA,bj];simp only[sy,Ik,fJ,nW]
def Im(ao:right t=true)(ar:j<t.ns.length){w':Bool}(hi:i<t.ns[j].kids.length):lb t.ns (j,i+1,w)+lb t.ns (t.ns[j].kids[i].toNat,0,w')+1=lb t.ns (j,i,w):=by
 have af:=sp ao j ar _ (dR hi);have aa:=OE ao (j:=t.ns[j].kids[i].toNat) (by omega) w';have ax:(((t.ns[j].kids[i].toNat:Nat):Int))=t.ns[j].kids[i]:=w5 af.1;rw[ax]at aa;have ak:=fs hi;have bj:lb t.ns (j,i,w)=1+lK (vG t.ns) (t.ns[j].kids.drop i):=by simp[lb,q5 ar]
 have cp:lb t.ns (j,i+1,w)=1+lK (vG t.ns) (t.ns[j].kids.drop (i+1)):=by simp[lb,q5 ar]
 rw[bj,cp,ak];simp only[lK,eh,sc];omega
def Io(ar:j<t.ns.length)(hi:t.ns[j].kids.length<=i):q3 deb t.ns (j,i,w)=lP deb t.ns (j,i,w)++(m3 t.ns[j]++(bif w then [41]else [])):=by simp only[q3,q5 ar,iU hi];rfl
def Ip{d:Nat}{x:cF}(h:F d=x):e5 F d x=F:=by
 funext t;unfold e5;cases e:Nat.beq t d with
 |false=>rfl| true=>have:=bV e;subst this;exact h.symm
def WZ{d:Nat}{x:Option (List Value)}(h:C d=x):g8 C d x=C:=by
 funext t;unfold g8;cases e:Nat.beq t d with
 |false=>rfl| true=>have:=bV e;subst this;exact h.symm
def EA:Code->Code
 | .scope c=>c
 | .seq a b=>match EA a with
  | .skip=>EA b| c=>c
 |_=>.skip
def OF(c:Code)(l:Nat):Code:=(findLabel c l).getD .skip
def cS.vA{b:Nat}{K:List aC->Prop}(pre post:List aC)(cs:Array Value)(T:Nat)(a5:M=pre++⟨b,.cells cs T (0,0)⟩::post)(ag:i+j+vs.length<=cs.size)(aa:ga vs=true)
  (h:K (pre++⟨b,.cells (bo cs.toList (i+j) vs).toArray T (0,0)⟩::post)):cS M (((⟨b,0,none⟩:Addr).add i).add j) vs K:=by
 rw[Go.V.vA];refine cS.add pre post cs T a5 (by omega) aa ?_;rw[dG];exact h
structure ih(I:aN)(deb:List Int):Prop where
 c:nZ I
 p:If I
 s:BB I
 d:oZ I deb
def Iq(a b c:α)(L:List α):(a::b::(L++[c])).Perm ([b,c]++(a::L)):=
 (List.Perm.swap b a _).trans (((((List.perm_append_singleton c L).cons a)).trans (List.Perm.swap c a L)).cons b)
def Ir(pre:List Value)(a b c z:Value)(rest:List Value):bo (pre++([a,b,c]++rest)) (pre.length+1) [z]=pre++([a,z,c]++rest):=by have:=Ok pre a b z (c::rest) _ rfl;exact this
def ih.mono(h:ih I deb)(a':∀ b o,I b=some o->I' b=some o):ih I' deb:=by obtain⟨⟨Is,f1,aa⟩,⟨xr,f2,ab⟩,⟨W0,f3,ai⟩,⟨aQ,bp,It,f4,bM⟩⟩:=h;exact⟨⟨Is,f1,a' _ _ aa⟩,⟨xr,f2,a' _ _ ab⟩,⟨W0,f3,a' _ _ ai⟩,⟨aQ,bp,It,f4,a' _ _ bM⟩⟩
def mr(ap:List Open):List Value:=ap.flatMap kJ
def BF(ap:List Open):(mr ap).length=ap.length*3:=fo kJ 3 (λ_=>rfl) ap
def xt(ap:List Open)(e:Open):mr (ap++[e])=mr ap++[.int .i64 e.1,.int .i64 e.2.1,.bool e.2.2]:=by simp[mr,kJ]
abbrev BG:=eA×bb×List Open×aN
def OG(t:db)(g:Nat)(x:BG):wZ:={ ca:=[(1,.ref 1 0),(3,.val (ptr g)),(4,.val x.2.1.val)],cl:=[(1,t.cells)],cQ:=x.2.2.2,dq:=x.2.1.aV 263++x.1.M g }
structure EB(cW:aN)(deb:List Int)(t:db)(x:BG):Prop where
 le:∀ b o,cW b=some o->x.2.2.2 b=some o
 ok:x.1.ok
 os:x.2.1.ok 3 (mr x.2.2.1)
 ne:x.2.2.1≠[]
 afP:∀ e∈x.2.2.1,e.1<t.ns.length
 afQ:x.1.bU++q4 deb t.ns x.2.2.1=kI deb t.ns t.root
 EC:sA t.ns x.2.2.1<=2*t.ns.length
set_option maxRecDepth 4000 in
def OH{cW:aN}(bO:ih cW deb)(az:t.ok cW)(ao:right t=true)(aw:t.n<=1024){g:Nat}{p:Nat->Nat×BG->Prop}(x:BG)(ae:EB cW deb t x)(aH:∀ y,EB cW deb t y->sA t.ns y.2.2.1<sA t.ns x.2.2.1->p 0 (g,y))(B:Nat)(au:World)(G:Fr)(xu:cG) :
  V ⟨Tryz.prog,k9,[3],Tryz.f187.ntmps,B,au,cW,[],none⟩ (OF (EA (Tryz.f187.body.getD .skip)) 0) (e5 (e5 (e5 G 4 (.val x.2.1.val)) 3 (.val (ptr g))) 1 (.ref 1 0)) (g8 xu 1 (some t.cells)) x.2.2.2 (x.2.1.aV 263++x.1.M g)
   (HE (λl=>pO [] (λy=>OG t y.1 y.2) (p l)) (rX ⟨Tryz.prog,k9,[3],Tryz.f187.ntmps,B,au,cW,[],none⟩ Tryz.f187.results.toList
    (λr I' M'=>r=.string (strOf (kI deb t.ns t.root))/\(∀ b o,cW b=some o->I' b=some o)/\M'=[]))):=by
 obtain⟨x,⟨xk,n,dI,cur⟩,ap,c3⟩:=x;obtain⟨hle,BH,dS,bl,gi,ld,OI⟩:=ae;simp only at hle BH dS bl gi ld OI aH |-;have tO:=bO.mono hle;have q6:=az.mono hle;have vk:=az.n;obtain⟨fU,⟨j,i,w⟩,rfl⟩:∃ fU e,ap=fU++[e]:=by
  rcases List.eq_nil_or_concat ap with h | ⟨r,e,h⟩;·exact(bl h).elim
  ·exact⟨r,e,by simpa using h⟩
 have ms:fU.length+1=n:=by have aa:=dS.len;rw[BF]at aa;simp at aa;omega
 have ar:j<t.ns.length:=gi (j,i,w) (by simp);have h8:j<t.n:=by omega
 cases xk with
 |none=>have:=(dS.nil rfl).1;simp only at this;omega| some b1=>
 obtain⟨eo,k5,ke,ie⟩:=dS.cap b1 rfl;simp only at eo k5 ke ie;have gY:(mr fU).length=(n-1)*3:=by rw[BF];omega
 obtain⟨rest,ig⟩:∃ rest,cur=mr fU++([.int .i64 j,.int .i64 i,.bool w]++rest):=by refine⟨cur.drop (n*3),?_⟩;have ab:=w3 (n*3) cur;rw[ie,xt,fJ]at ab;exact ab.symm
 have W1:cur[(n-1)*3+0]?=some (.int .i64 j):=by rw[ig,<-gY,oO (by omega)];simp
 have o4:cur[(n-1)*3+1]?=some (.int .i64 i):=by rw[ig,<-gY,oO (by omega)];simp
 have ED:cur[(n-1)*3+2]?=some (.bool w):=by rw[ig,<-gY,oO (by omega)];simp
 have BI:=Oz (deb:=deb) ao;have lM:x.bU.length<=2412*t.ns.length:=by have:=congrArg List.length ld;rw[cD]at this;omega
 have OJ:=OB t.ns (fU++[(j,i,w)]);simp only[cD,du,iF]at OJ;have ia:=q6.ns t.ns[j] (dR ar);have dK:=ia.kn;have iB:=Ot (N6 ao ar);obtain⟨ad,cg,bD⟩:=q6.a3.row a1.cV h8 ar;rw[xq]at ld;rw[o3]at OI aH OJ;have o5:IntKind.i64.wrap ((n:Int)-1)=((n-1:Nat):Int):=by rw[wrap_i64 ⟨by omega,by omega⟩];omega
 refine a6.mk (((n-1:Nat)):Int) o5 ?_;refine bs.mk ⟨b1,0,none⟩ (n-1) rfl rfl (by show n-1<n;omega) ?_;refine cX.draw aT rfl rfl rfl ?_;refine aM.mk [.int .i64 j] (kH (b:=b1) (cs:=cur) (T:=263) (by simp[bb.aV]) W1) ?_;refine bs.mk ad j cg rfl h8 ?_;refine aM.mk _ (bD _) ?_;refine cC.mk λcM OK afR=>?_;refine cS.mk [] (⟨b1,.cells cur.toArray 263 (0,0)⟩::x.M g) _ _ rfl rfl (bq rfl) rfl ?_;refine aM.mk [.int .i64 i] (kH (b:=b1) (cs:=cur) (T:=263) (by simp[bb.aV]) o4) ?_;refine aR.mk (λaa=>?_) (λaa=>?_)
 ·refine aM.mk [.bool w] (kH (b:=b1) (cs:=cur) (T:=263) (by simp[bb.aV]) ED) ?_;refine aR.mk (λab=>?_) (λab=>?_)
  ·refine a7.mk (x.M g) [⟨cM,.cells t.ns[j].cells.toArray 72 (0,0)⟩,⟨b1,.cells cur.toArray 263 (0,0)⟩] _ (gK (l₁:=[_,_])) (ml g BH 40 (by omega)) ?_;rintro v gh eP -⟨rfl,rfl,y,aL,fC,rfl⟩;have Od:y.bU.length<=2412*t.ns.length+1:=by rw[fC];simp;omega
   refine aM.mk _ (dn (T:=72) (b:=cM) (cs:=t.ns[j].cells) (k:=0) (n:=9) (by simp) (bq rfl)) ?_;refine a7.mk [] (y.M g++[⟨cM,.cells t.ns[j].cells.toArray 72 (0,0)⟩,⟨b1,.cells cur.toArray 263 (0,0)⟩]) _ (by simp) (Ov tO.d tO.s ia iB) ?_;rintro v gh eP -⟨rfl,jM,rfl⟩;have iY:∀ b o,cW b=some o->gh b=some o:=λb o h=>jM _ _ (hle _ _ h);have EE:=Ii deb iB;refine a7.mk (y.M g) [⟨cM,.cells t.ns[j].cells.toArray 72 (0,0)⟩,⟨b1,.cells cur.toArray 263 (0,0)⟩] _ (by simp) (qW g aL _ (by show _+(o2 deb t.ns[j]).length<=_;omega)) ?_;rintro v iG oS -⟨rfl,rfl,u,hu,tM,rfl⟩;have o6:u.bU=x.bU++lP deb t.ns (j,i,w):=by rw[tM,fC];simp only[lP,aa,ab,q5 ar,aZ,aY];simp[strOf]
   have Oq:u.bU.length<=2412*t.ns.length+2401:=by rw[o6,cD];simp only[lP,aa,ab,q5 ar,aZ,aY,cD,du,iF];omega
   have m4:=bO.mono iY;have mu:=az.mono iY;have n8:=mu.ns t.ns[j] (dR ar);have vH:∀ {k m:Nat},k+m<=9->ck iG (u.M g++[⟨cM,.cells t.ns[j].cells.toArray 72 (0,0)⟩,⟨b1,.cells cur.toArray 263 (0,0)⟩]) ((⟨cM,0,none⟩:Addr).add k) m ((t.ns[j].cells.drop k).take m):=λh=>dn (T:=72) (by simp) h;refine cX.draw aT rfl rfl rfl ?_;refine aM.mk [.int .i64 i] (kH (b:=b1) (cs:=cur) (T:=263) (by simp[bb.aV]) o4) ?_;refine aM.mk _ (vH (by decide)) ?_;refine aR.mk (λaf=>?_) (λaf=>?_)
   ·have eI:i<t.ns[j].kn:=by simpa using af
    have n9:i<t.ns[j].kids.length:=by omega
    obtain⟨ib,iX,gW⟩:=n8.a3.one eI n9;have hJ:=sp ao j ar _ (dR n9);obtain⟨q,vI⟩:=qM hJ.1;have fV:q<t.ns.length:=by omega
    have lQ:q<t.n:=by omega
    obtain⟨n',tP,tQ⟩:=mu.a3.row a1.cV lQ fV;have tR:∀ M,ck iG M ((n'.add (q*9)).add 0) 1 [.int .u8 t.ns[q].k]:=λM=>(tQ M).part (k:=0) (m:=1) (by decide);have q7:lO t.ns ((q:Nat):Int)=t.ns[q].k:=by simp[lO,dT,fV]
    have gZ:=Il (deb:=deb) ao ar (w:=w) n9;have vJ:=Im ao ar (w:=w) (w':=fM t.ns[j].k t.ns[q].k) n9;rw[vI]at gZ vJ;simp only[Eu,nF]at gZ vJ;rw[q7]at gZ;have eR:IntKind.i64.wrap ((i:Int)+1)=((i+1:Nat):Int):=by have:=n8.a3.cap;rw[wrap_i64 ⟨by omega,by omega⟩];omega
    have bI:bo cur ((n-1)*3+1) [.int .i64 ((i+1:Nat):Int)]=mr fU++([.int .i64 j,.int .i64 ((i+1:Nat):Int),.bool w]++rest):=by rw[ig,<-gY];exact Ir _ _ _ _ _ _
    have BJ:bb.ok ⟨some b1,n,dI,bo cur ((n-1)*3+1) [.int .i64 ((i+1:Nat):Int)]⟩ 3 (mr (fU++[(j,i+1,w)])):=by
     rw[bI,xt];refine⟨by simp only[cD,du,iF];omega,(λh=>by cases h),λbr _=>⟨?_,k5,ke,?_⟩⟩;·simp only;rw[<-eo,ig];simp
     ·simp only;rw[<-fJ];refine oQ ?_;simp only[cD,du,iF];omega
    refine aM.mk [.int .i64 i] (kH (b:=b1) (cs:=cur) (T:=263) (by simp[bb.aV]) o4) ?_;refine aR.mk (λbd=>by simp at aa bd;omega) (λbd=>?_);refine cX.draw aT rfl rfl rfl ?_;refine aM.mk _ (dn (T:=72) (b:=cM) (cs:=t.ns[j].cells) (k:=8) (n:=1) (by simp) (bq rfl)) ?_;refine aM.mk [.int .i64 i] (kH (b:=b1) (cs:=cur) (T:=263) (by simp[bb.aV]) o4) ?_;refine bs.mk ib i iX rfl eI ?_;refine aM.mk [.int .i64 (q:Nat)] (by have c8:=gW;rw[vI]at c8;exact c8 _) ?_;refine aM.mk [.int .i64 i] (kH (b:=b1) (cs:=cur) (T:=263) (by simp[bb.aV]) o4) ?_;refine a6.mk ((i+1:Nat):Int) eR ?_;refine cS.vA (u.M g++[⟨cM,.cells t.ns[j].cells.toArray 72 (0,0)⟩]) [] cur.toArray 263 (by simp[bb.aV]) ?_ rfl ?_;·simp only[qA];show(n-1)*3+1+1<=_;omega
    refine cX.draw aT rfl rfl rfl ?_;refine aM.mk [.int .u8 t.ns[j].k] (dn (T:=72) (b:=cM) (cs:=t.ns[j].cells) (k:=0) (n:=1) (by simp) (bq rfl)) ?_;refine bs.mk n' q tP rfl lQ ?_;refine aM.mk [.int .u8 t.ns[q].k] (tR _) ?_;refine nO.mk _ (H4 t.ns[j].k t.ns[q].k) ?_;rintro v xv mi -⟨rfl,rfl,rfl⟩;refine cC.mk λb6 gj Iu=>?_;refine be.append aT rfl (by simp) (e:=263) rfl rfl rfl ⟨some b1,n,dI,bo cur ((n-1)*3+1) [.int .i64 ((i+1:Nat):Int)]⟩ (xs:=mr (fU++[(j,i+1,w)])) BJ rfl (m:=1) rfl (news:=kJ (q,0,fM t.ns[j].k t.ns[q].k)) (by decide) (dn (b:=b6) (cs:=kJ (q,0,fM t.ns[j].k t.ns[q].k)) (k:=0) (n:=3) (T:=263) (.head _) (bq rfl)) rfl (Mr:=⟨b6,.cells (kJ (q,0,fM t.ns[j].k t.ns[q].k)).toArray 263 (0,0)⟩::(u.M g++[⟨cM,.cells t.ns[j].cells.toArray 72 (0,0)⟩])) (by exact gK (l₁:=(⟨b6,.cells (kJ (q,0,fM t.ns[j].k t.ns[q].k)).toArray 263 (0,0)⟩:aC)::(u.M g++[⟨cM,.cells t.ns[j].cells.toArray 72 (0,0)⟩])) (l₂:=[⟨b1,.cells (bo cur ((n-1)*3+1) [.int .i64 ((i+1:Nat):Int)]).toArray 263 (0,0)⟩])) (by show n+1<=_;simp only[maxLen];omega) (by show(n+1)*24<=_;omega) ?_;intro c5 c' hS dH di hQ jl;refine⟨(g,u,⟨some c5,n+1,c',hS⟩,fU++[(j,i+1,w)]++[(q,0,fM t.ns[j].k t.ns[q].k)],_),aH _ ⟨iY,hu,⟨?_,(λh=>by cases h),λbr _=>⟨dH,di,hQ,?_⟩⟩,by simp,?_,?_,?_⟩ ?_,.perm (M1:=[⟨b6,.cells (kJ (q,0,fM t.ns[j].k t.ns[q].k)).toArray 263 (0,0)⟩,⟨cM,.cells t.ns[j].cells.toArray 72 (0,0)⟩]++(⟨c5,.cells hS.toArray 263 (0,0)⟩::u.M g)) (Iq _ _ _ _) (.sub (k2 _ _) .refl),gI,.cons rfl .nil⟩;·show _=(n+1)*3;rw[BF];simp;omega
    ·show hS.take ((n+1)*3)=_;rw[xt (fU++[(j,i+1,w)])];exact jl
    ·intro e he;simp only[dA,iM]at he;rcases he with(he | rfl) | rfl
     ·exact gi e (by simp[he])
     ·exact ar
     ·exact fV
    ·simp only;rw[xq,xq,o6,<-ld,gZ];rw[show decide (0<(i:Int))=false from bd];simp
    ·simp only;rw[o3,o3];omega
    ·simp only;rw[o3,o3];omega
   ·have eI:t.ns[j].kids.length<=i:=by simp at af;omega
    have gZ:=Io (deb:=deb) ar (w:=w) eI;have pU:=Ez t.ns[j];refine aM.mk _ (dn (T:=72) (b:=cM) (cs:=t.ns[j].cells) (k:=0) (n:=9) (by simp) (bq rfl)) ?_;refine a7.mk [] (u.M g++[⟨cM,.cells t.ns[j].cells.toArray 72 (0,0)⟩,⟨b1,.cells cur.toArray 263 (0,0)⟩]) _ (.refl _) (Ig m4.c m4.p m4.s n8 iB) ?_;rintro v xv mi -⟨rfl,rfl,rfl⟩;refine a7.mk (u.M g) [⟨cM,.cells t.ns[j].cells.toArray 72 (0,0)⟩,⟨b1,.cells cur.toArray 263 (0,0)⟩] _ (by simp) (qW g hu _ (by show _+(m3 t.ns[j]).length<=_;omega)) ?_;rintro v EF Iv -⟨rfl,rfl,a,av,ij,rfl⟩;have OL:a.bU.length<=2412*t.ns.length+2410:=by rw[ij,cD];show _+(m3 t.ns[j]).length<=_;omega
    refine aM.mk [.bool w] (kH (b:=b1) (cs:=cur) (T:=263) (by simp[bb.aV]) ED) ?_;refine aR.mk (λhw=>?_) (λhw=>?_)
    ·subst hw;refine a7.mk (a.M g) [⟨cM,.cells t.ns[j].cells.toArray 72 (0,0)⟩,⟨b1,.cells cur.toArray 263 (0,0)⟩] _ (by simp) (ml g av 41 (by omega)) ?_;rintro v OM ON -⟨rfl,rfl,c,aF,gT,rfl⟩;refine a6.mk (((n-1:Nat)):Int) o5 ?_;refine h5.mk 0 (n-1) rfl rfl (bk _) (by show n-1<=dI;omega) ?_;refine aR.mk (λbd=>?_) (λbd=>?_)
     ·have iC:0<n-1:=by simp at bd;omega
      refine⟨(g,c,⟨some b1,n-1,dI,cur⟩,fU,_),aH _ ⟨iY,aF,⟨?_,(λh=>by cases h),λbr _=>⟨eo,by show n-1<=dI;omega,ke,?_⟩⟩,?_,λe he=>gi e (by simp[he]),?_,?_⟩ ?_,.perm (M1:=[⟨cM,.cells t.ns[j].cells.toArray 72 (0,0)⟩]++(⟨b1,.cells cur.toArray 263 (0,0)⟩::c.M g)) (gK (l₂:=[_,_])) (.sub (k2 _ _) .refl),gI,.cons rfl .nil⟩;·exact gY
      ·show cur.take ((n-1)*3)=_;rw[ig,<-gY];exact oQ rfl
      ·intro h;simp only at h;rw[h]at ms;simp at ms;omega
      ·simp only;rw[gT,ij,o6,<-ld,gZ];simp[strOf]
      ·simp only;omega
      ·simp only[lb];omega
     ·have iC:n-1=0:=by simp at bd;omega
      have q8:fU=[]:=lD (by omega);have lR:c.bU=kI deb t.ns t.root:=by rw[gT,ij,o6,<-ld,gZ,q8];simp[q4,strOf]
      refine a7.mk (c.M g) [⟨cM,.cells t.ns[j].cells.toArray 72 (0,0)⟩,⟨b1,.cells cur.toArray 263 (0,0)⟩] _ (by simp) (tL g aF (by rw[lR];omega)) ?_;rintro v ze zf -⟨rfl,rfl,rfl⟩;refine⟨_,_,.sub (gu _) .refl,?_,iY,rfl⟩;rw[lR];rfl
    ·subst hw;refine a6.mk (((n-1:Nat)):Int) o5 ?_;refine h5.mk 0 (n-1) rfl rfl (bk _) (by show n-1<=dI;omega) ?_;refine aR.mk (λbd=>?_) (λbd=>?_)
     ·have iC:0<n-1:=by simp at bd;omega
      refine⟨(g,a,⟨some b1,n-1,dI,cur⟩,fU,_),aH _ ⟨iY,av,⟨?_,(λh=>by cases h),λbr _=>⟨eo,by show n-1<=dI;omega,ke,?_⟩⟩,?_,λe he=>gi e (by simp[he]),?_,?_⟩ ?_,.perm (M1:=[⟨cM,.cells t.ns[j].cells.toArray 72 (0,0)⟩]++(⟨b1,.cells cur.toArray 263 (0,0)⟩::a.M g)) (gK (l₂:=[_,_])) (.sub (k2 _ _) .refl),gI,.cons rfl .nil⟩;·exact gY
      ·show cur.take ((n-1)*3)=_;rw[ig,<-gY];exact oQ rfl
      ·intro h;simp only at h;rw[h]at ms;simp at ms;omega
      ·simp only;rw[ij,o6,<-ld,gZ];simp[strOf]
      ·simp only;omega
      ·simp only[lb];omega
     ·have iC:n-1=0:=by simp at bd;omega
      have q8:fU=[]:=lD (by omega);have lR:a.bU=kI deb t.ns t.root:=by rw[ij,o6,<-ld,gZ,q8];simp[q4,strOf]
      refine a7.mk (a.M g) [⟨cM,.cells t.ns[j].cells.toArray 72 (0,0)⟩,⟨b1,.cells cur.toArray 263 (0,0)⟩] _ (by simp) (tL g av (by rw[lR];omega)) ?_;rintro v ze zf -⟨rfl,rfl,rfl⟩;refine⟨_,_,.sub (gu _) .refl,?_,iY,rfl⟩;rw[lR];rfl
  ·refine aM.mk _ (dn (T:=72) (b:=cM) (cs:=t.ns[j].cells) (k:=0) (n:=9) (.head _) (bq rfl)) ?_;refine a7.mk [] (⟨cM,.cells t.ns[j].cells.toArray 72 (0,0)⟩::⟨b1,.cells cur.toArray 263 (0,0)⟩::x.M g) _ (.refl _) (Ov tO.d tO.s ia iB) ?_;rintro v gh eP -⟨rfl,jM,rfl⟩;have iY:∀ b o,cW b=some o->gh b=some o:=λb o h=>jM _ _ (hle _ _ h);have EE:=Ii deb iB;refine a7.mk (x.M g) [⟨cM,.cells t.ns[j].cells.toArray 72 (0,0)⟩,⟨b1,.cells cur.toArray 263 (0,0)⟩] _ (gK (l₁:=[_,_])) (qW g BH _ (by show _+(o2 deb t.ns[j]).length<=_;omega)) ?_;rintro v iG oS -⟨rfl,rfl,u,hu,tM,rfl⟩;have o6:u.bU=x.bU++lP deb t.ns (j,i,w):=by rw[tM];simp only[lP,aa,ab,q5 ar,aZ,aY];simp[strOf]
   have Oq:u.bU.length<=2412*t.ns.length+2401:=by rw[o6,cD];simp only[lP,aa,ab,q5 ar,aZ,aY,cD,du,iF];omega
   have m4:=bO.mono iY;have mu:=az.mono iY;have n8:=mu.ns t.ns[j] (dR ar);have vH:∀ {k m:Nat},k+m<=9->ck iG (u.M g++[⟨cM,.cells t.ns[j].cells.toArray 72 (0,0)⟩,⟨b1,.cells cur.toArray 263 (0,0)⟩]) ((⟨cM,0,none⟩:Addr).add k) m ((t.ns[j].cells.drop k).take m):=λh=>dn (T:=72) (by simp) h;refine cX.draw aT rfl rfl rfl ?_;refine aM.mk [.int .i64 i] (kH (b:=b1) (cs:=cur) (T:=263) (by simp[bb.aV]) o4) ?_;refine aM.mk _ (vH (by decide)) ?_;refine aR.mk (λaf=>?_) (λaf=>?_)
   ·have eI:i<t.ns[j].kn:=by simpa using af
    have n9:i<t.ns[j].kids.length:=by omega
    obtain⟨ib,iX,gW⟩:=n8.a3.one eI n9;have hJ:=sp ao j ar _ (dR n9);obtain⟨q,vI⟩:=qM hJ.1;have fV:q<t.ns.length:=by omega
    have lQ:q<t.n:=by omega
    obtain⟨n',tP,tQ⟩:=mu.a3.row a1.cV lQ fV;have tR:∀ M,ck iG M ((n'.add (q*9)).add 0) 1 [.int .u8 t.ns[q].k]:=λM=>(tQ M).part (k:=0) (m:=1) (by decide);have q7:lO t.ns ((q:Nat):Int)=t.ns[q].k:=by simp[lO,dT,fV]
    have gZ:=Il (deb:=deb) ao ar (w:=w) n9;have vJ:=Im ao ar (w:=w) (w':=fM t.ns[j].k t.ns[q].k) n9;rw[vI]at gZ vJ;simp only[Eu,nF]at gZ vJ;rw[q7]at gZ;have eR:IntKind.i64.wrap ((i:Int)+1)=((i+1:Nat):Int):=by have:=n8.a3.cap;rw[wrap_i64 ⟨by omega,by omega⟩];omega
    have bI:bo cur ((n-1)*3+1) [.int .i64 ((i+1:Nat):Int)]=mr fU++([.int .i64 j,.int .i64 ((i+1:Nat):Int),.bool w]++rest):=by rw[ig,<-gY];exact Ir _ _ _ _ _ _
    have BJ:bb.ok ⟨some b1,n,dI,bo cur ((n-1)*3+1) [.int .i64 ((i+1:Nat):Int)]⟩ 3 (mr (fU++[(j,i+1,w)])):=by
     rw[bI,xt];refine⟨by simp only[cD,du,iF];omega,(λh=>by cases h),λbr _=>⟨?_,k5,ke,?_⟩⟩;·simp only;rw[<-eo,ig];simp
     ·simp only;rw[<-fJ];refine oQ ?_;simp only[cD,du,iF];omega
    refine aM.mk [.int .i64 i] (kH (b:=b1) (cs:=cur) (T:=263) (by simp[bb.aV]) o4) ?_;refine aR.mk (λbd=>by simp at aa bd;omega) (λbd=>?_);refine cX.draw aT rfl rfl rfl ?_;refine aM.mk _ (dn (T:=72) (b:=cM) (cs:=t.ns[j].cells) (k:=8) (n:=1) (by simp) (bq rfl)) ?_;refine aM.mk [.int .i64 i] (kH (b:=b1) (cs:=cur) (T:=263) (by simp[bb.aV]) o4) ?_;refine bs.mk ib i iX rfl eI ?_;refine aM.mk [.int .i64 (q:Nat)] (by have c8:=gW;rw[vI]at c8;exact c8 _) ?_;refine aM.mk [.int .i64 i] (kH (b:=b1) (cs:=cur) (T:=263) (by simp[bb.aV]) o4) ?_;refine a6.mk ((i+1:Nat):Int) eR ?_;refine cS.vA (u.M g++[⟨cM,.cells t.ns[j].cells.toArray 72 (0,0)⟩]) [] cur.toArray 263 (by simp[bb.aV]) ?_ rfl ?_;·simp only[qA];show(n-1)*3+1+1<=_;omega
    refine cX.draw aT rfl rfl rfl ?_;refine aM.mk [.int .u8 t.ns[j].k] (dn (T:=72) (b:=cM) (cs:=t.ns[j].cells) (k:=0) (n:=1) (by simp) (bq rfl)) ?_;refine bs.mk n' q tP rfl lQ ?_;refine aM.mk [.int .u8 t.ns[q].k] (tR _) ?_;refine nO.mk _ (H4 t.ns[j].k t.ns[q].k) ?_;rintro v xv mi -⟨rfl,rfl,rfl⟩;refine cC.mk λb6 gj Iu=>?_;refine be.append aT rfl (by simp) (e:=263) rfl rfl rfl ⟨some b1,n,dI,bo cur ((n-1)*3+1) [.int .i64 ((i+1:Nat):Int)]⟩ (xs:=mr (fU++[(j,i+1,w)])) BJ rfl (m:=1) rfl (news:=kJ (q,0,fM t.ns[j].k t.ns[q].k)) (by decide) (dn (b:=b6) (cs:=kJ (q,0,fM t.ns[j].k t.ns[q].k)) (k:=0) (n:=3) (T:=263) (.head _) (bq rfl)) rfl (Mr:=⟨b6,.cells (kJ (q,0,fM t.ns[j].k t.ns[q].k)).toArray 263 (0,0)⟩::(u.M g++[⟨cM,.cells t.ns[j].cells.toArray 72 (0,0)⟩])) (by exact gK (l₁:=(⟨b6,.cells (kJ (q,0,fM t.ns[j].k t.ns[q].k)).toArray 263 (0,0)⟩:aC)::(u.M g++[⟨cM,.cells t.ns[j].cells.toArray 72 (0,0)⟩])) (l₂:=[⟨b1,.cells (bo cur ((n-1)*3+1) [.int .i64 ((i+1:Nat):Int)]).toArray 263 (0,0)⟩])) (by show n+1<=_;simp only[maxLen];omega) (by show(n+1)*24<=_;omega) ?_;intro c5 c' hS dH di hQ jl;refine⟨(g,u,⟨some c5,n+1,c',hS⟩,fU++[(j,i+1,w)]++[(q,0,fM t.ns[j].k t.ns[q].k)],_),aH _ ⟨iY,hu,⟨?_,(λh=>by cases h),λbr _=>⟨dH,di,hQ,?_⟩⟩,by simp,?_,?_,?_⟩ ?_,.perm (M1:=[⟨b6,.cells (kJ (q,0,fM t.ns[j].k t.ns[q].k)).toArray 263 (0,0)⟩,⟨cM,.cells t.ns[j].cells.toArray 72 (0,0)⟩]++(⟨c5,.cells hS.toArray 263 (0,0)⟩::u.M g)) (Iq _ _ _ _) (.sub (k2 _ _) .refl),gI,.cons rfl .nil⟩;·show _=(n+1)*3;rw[BF];simp;omega
    ·show hS.take ((n+1)*3)=_;rw[xt (fU++[(j,i+1,w)])];exact jl
    ·intro e he;simp only[dA,iM]at he;rcases he with(he | rfl) | rfl
     ·exact gi e (by simp[he])
     ·exact ar
     ·exact fV
    ·simp only;rw[xq,xq,o6,<-ld,gZ];rw[show decide (0<(i:Int))=false from bd];simp
    ·simp only;rw[o3,o3];omega
    ·simp only;rw[o3,o3];omega
   ·have eI:t.ns[j].kids.length<=i:=by simp at af;omega
    have gZ:=Io (deb:=deb) ar (w:=w) eI;have pU:=Ez t.ns[j];refine aM.mk _ (dn (T:=72) (b:=cM) (cs:=t.ns[j].cells) (k:=0) (n:=9) (by simp) (bq rfl)) ?_;refine a7.mk [] (u.M g++[⟨cM,.cells t.ns[j].cells.toArray 72 (0,0)⟩,⟨b1,.cells cur.toArray 263 (0,0)⟩]) _ (.refl _) (Ig m4.c m4.p m4.s n8 iB) ?_;rintro v xv mi -⟨rfl,rfl,rfl⟩;refine a7.mk (u.M g) [⟨cM,.cells t.ns[j].cells.toArray 72 (0,0)⟩,⟨b1,.cells cur.toArray 263 (0,0)⟩] _ (by simp) (qW g hu _ (by show _+(m3 t.ns[j]).length<=_;omega)) ?_;rintro v EF Iv -⟨rfl,rfl,a,av,ij,rfl⟩;have OL:a.bU.length<=2412*t.ns.length+2410:=by rw[ij,cD];show _+(m3 t.ns[j]).length<=_;omega
    refine aM.mk [.bool w] (kH (b:=b1) (cs:=cur) (T:=263) (by simp[bb.aV]) ED) ?_;refine aR.mk (λhw=>?_) (λhw=>?_)
    ·subst hw;refine a7.mk (a.M g) [⟨cM,.cells t.ns[j].cells.toArray 72 (0,0)⟩,⟨b1,.cells cur.toArray 263 (0,0)⟩] _ (by simp) (ml g av 41 (by omega)) ?_;rintro v OM ON -⟨rfl,rfl,c,aF,gT,rfl⟩;refine a6.mk (((n-1:Nat)):Int) o5 ?_;refine h5.mk 0 (n-1) rfl rfl (bk _) (by show n-1<=dI;omega) ?_;refine aR.mk (λbd=>?_) (λbd=>?_)
     ·have iC:0<n-1:=by simp at bd;omega
      refine⟨(g,c,⟨some b1,n-1,dI,cur⟩,fU,_),aH _ ⟨iY,aF,⟨?_,(λh=>by cases h),λbr _=>⟨eo,by show n-1<=dI;omega,ke,?_⟩⟩,?_,λe he=>gi e (by simp[he]),?_,?_⟩ ?_,.perm (M1:=[⟨cM,.cells t.ns[j].cells.toArray 72 (0,0)⟩]++(⟨b1,.cells cur.toArray 263 (0,0)⟩::c.M g)) (gK (l₂:=[_,_])) (.sub (k2 _ _) .refl),gI,.cons rfl .nil⟩;·exact gY
      ·show cur.take ((n-1)*3)=_;rw[ig,<-gY];exact oQ rfl
      ·intro h;simp only at h;rw[h]at ms;simp at ms;omega
      ·simp only;rw[gT,ij,o6,<-ld,gZ];simp[strOf]
      ·simp only;omega
      ·simp only[lb];omega
     ·have iC:n-1=0:=by simp at bd;omega
      have q8:fU=[]:=lD (by omega);have lR:c.bU=kI deb t.ns t.root:=by rw[gT,ij,o6,<-ld,gZ,q8];simp[q4,strOf]
      refine a7.mk (c.M g) [⟨cM,.cells t.ns[j].cells.toArray 72 (0,0)⟩,⟨b1,.cells cur.toArray 263 (0,0)⟩] _ (by simp) (tL g aF (by rw[lR];omega)) ?_;rintro v ze zf -⟨rfl,rfl,rfl⟩;refine⟨_,_,.sub (gu _) .refl,?_,iY,rfl⟩;rw[lR];rfl
    ·subst hw;refine a6.mk (((n-1:Nat)):Int) o5 ?_;refine h5.mk 0 (n-1) rfl rfl (bk _) (by show n-1<=dI;omega) ?_;refine aR.mk (λbd=>?_) (λbd=>?_)
     ·have iC:0<n-1:=by simp at bd;omega
      refine⟨(g,a,⟨some b1,n-1,dI,cur⟩,fU,_),aH _ ⟨iY,av,⟨?_,(λh=>by cases h),λbr _=>⟨eo,by show n-1<=dI;omega,ke,?_⟩⟩,?_,λe he=>gi e (by simp[he]),?_,?_⟩ ?_,.perm (M1:=[⟨cM,.cells t.ns[j].cells.toArray 72 (0,0)⟩]++(⟨b1,.cells cur.toArray 263 (0,0)⟩::a.M g)) (gK (l₂:=[_,_])) (.sub (k2 _ _) .refl),gI,.cons rfl .nil⟩;·exact gY
      ·show cur.take ((n-1)*3)=_;rw[ig,<-gY];exact oQ rfl
      ·intro h;simp only at h;rw[h]at ms;simp at ms;omega
      ·simp only;rw[ij,o6,<-ld,gZ];simp[strOf]
      ·simp only;omega
      ·simp only[lb];omega
     ·have iC:n-1=0:=by simp at bd;omega
      have q8:fU=[]:=lD (by omega);have lR:a.bU=kI deb t.ns t.root:=by rw[ij,o6,<-ld,gZ,q8];simp[q4,strOf]
      refine a7.mk (a.M g) [⟨cM,.cells t.ns[j].cells.toArray 72 (0,0)⟩,⟨b1,.cells cur.toArray 263 (0,0)⟩] _ (by simp) (tL g av (by rw[lR];omega)) ?_;rintro v ze zf -⟨rfl,rfl,rfl⟩;refine⟨_,_,.sub (gu _) .refl,?_,iY,rfl⟩;rw[lR];rfl
 ·have afS:x.bU=x.bU++lP deb t.ns (j,i,w):=by simp only[lP,aa,aY,en]
  have m4:=bO.mono hle;have mu:=az.mono hle;have n8:=mu.ns t.ns[j] (dR ar);have vH:∀ {k m:Nat},k+m<=9->ck c3 (⟨cM,.cells t.ns[j].cells.toArray 72 (0,0)⟩::⟨b1,.cells cur.toArray 263 (0,0)⟩::x.M g) ((⟨cM,0,none⟩:Addr).add k) m ((t.ns[j].cells.drop k).take m):=λh=>dn (T:=72) (by simp) h;refine cX.draw aT rfl rfl rfl ?_;refine aM.mk [.int .i64 i] (kH (b:=b1) (cs:=cur) (T:=263) (by simp[bb.aV]) o4) ?_;refine aM.mk _ (vH (by decide)) ?_;refine aR.mk (λaf=>?_) (λaf=>?_)
  ·have eI:i<t.ns[j].kn:=by simpa using af
   have n9:i<t.ns[j].kids.length:=by omega
   obtain⟨ib,iX,gW⟩:=n8.a3.one eI n9;have hJ:=sp ao j ar _ (dR n9);obtain⟨q,vI⟩:=qM hJ.1;have fV:q<t.ns.length:=by omega
   have lQ:q<t.n:=by omega
   obtain⟨n',tP,tQ⟩:=mu.a3.row a1.cV lQ fV;have tR:∀ M,ck c3 M ((n'.add (q*9)).add 0) 1 [.int .u8 t.ns[q].k]:=λM=>(tQ M).part (k:=0) (m:=1) (by decide);have q7:lO t.ns ((q:Nat):Int)=t.ns[q].k:=by simp[lO,dT,fV]
   have gZ:=Il (deb:=deb) ao ar (w:=w) n9;have vJ:=Im ao ar (w:=w) (w':=fM t.ns[j].k t.ns[q].k) n9;rw[vI]at gZ vJ;simp only[Eu,nF]at gZ vJ;rw[q7]at gZ;have eR:IntKind.i64.wrap ((i:Int)+1)=((i+1:Nat):Int):=by have:=n8.a3.cap;rw[wrap_i64 ⟨by omega,by omega⟩];omega
   have bI:bo cur ((n-1)*3+1) [.int .i64 ((i+1:Nat):Int)]=mr fU++([.int .i64 j,.int .i64 ((i+1:Nat):Int),.bool w]++rest):=by rw[ig,<-gY];exact Ir _ _ _ _ _ _
   have BJ:bb.ok ⟨some b1,n,dI,bo cur ((n-1)*3+1) [.int .i64 ((i+1:Nat):Int)]⟩ 3 (mr (fU++[(j,i+1,w)])):=by
    rw[bI,xt];refine⟨by simp only[cD,du,iF];omega,(λh=>by cases h),λbr _=>⟨?_,k5,ke,?_⟩⟩;·simp only;rw[<-eo,ig];simp
    ·simp only;rw[<-fJ];refine oQ ?_;simp only[cD,du,iF];omega
   refine aM.mk [.int .i64 i] (kH (b:=b1) (cs:=cur) (T:=263) (by simp[bb.aV]) o4) ?_;refine aR.mk (λbd=>?_) (λbd=>by simp at aa bd;omega);refine aM.mk [.int .u8 t.ns[j].k] (dn (T:=72) (b:=cM) (cs:=t.ns[j].cells) (k:=0) (n:=1) (.head _) (bq rfl)) ?_;refine ed.mk t.ns[j].k.toNat (by have:=n8.k;omega) (by have:=iB.k;have:=n8.k;omega) ?_;refine aM.mk _ (m4.s.rd _ (by have:=iB.k;have:=n8.k;show t.ns[j].k.toNat*3+1<30;omega)) ?_;refine a7.mk (x.M g) [⟨cM,.cells t.ns[j].cells.toArray 72 (0,0)⟩,⟨b1,.cells cur.toArray 263 (0,0)⟩] _ (gK (l₁:=[_,_])) (qW g BH _ (by have:=BC (t.ns[j].k.toNat*3+1);show _+(o1 (t.ns[j].k.toNat*3+1)).length<=_;omega)) ?_;rintro v lG mU -⟨rfl,rfl,z,Iw,W2,rfl⟩;have p2:z.bU=x.bU++BD t.ns[j]:=W2;refine cX.draw aT rfl rfl rfl ?_;refine aM.mk _ (dn (T:=72) (b:=cM) (cs:=t.ns[j].cells) (k:=8) (n:=1) (by simp) (bq rfl)) ?_;refine aM.mk [.int .i64 i] (kH (b:=b1) (cs:=cur) (T:=263) (by simp[bb.aV]) o4) ?_;refine bs.mk ib i iX rfl eI ?_;refine aM.mk [.int .i64 (q:Nat)] (by have c8:=gW;rw[vI]at c8;exact c8 _) ?_;refine aM.mk [.int .i64 i] (kH (b:=b1) (cs:=cur) (T:=263) (by simp[bb.aV]) o4) ?_;refine a6.mk ((i+1:Nat):Int) eR ?_;refine cS.vA (z.M g++[⟨cM,.cells t.ns[j].cells.toArray 72 (0,0)⟩]) [] cur.toArray 263 (by simp[bb.aV]) ?_ rfl ?_;·simp only[qA];show(n-1)*3+1+1<=_;omega
   refine cX.draw aT rfl rfl rfl ?_;refine aM.mk [.int .u8 t.ns[j].k] (dn (T:=72) (b:=cM) (cs:=t.ns[j].cells) (k:=0) (n:=1) (by simp) (bq rfl)) ?_;refine bs.mk n' q tP rfl lQ ?_;refine aM.mk [.int .u8 t.ns[q].k] (tR _) ?_;refine nO.mk _ (H4 t.ns[j].k t.ns[q].k) ?_;rintro v xv mi -⟨rfl,rfl,rfl⟩;refine cC.mk λb6 gj Iu=>?_;refine be.append aT rfl (by simp) (e:=263) rfl rfl rfl ⟨some b1,n,dI,bo cur ((n-1)*3+1) [.int .i64 ((i+1:Nat):Int)]⟩ (xs:=mr (fU++[(j,i+1,w)])) BJ rfl (m:=1) rfl (news:=kJ (q,0,fM t.ns[j].k t.ns[q].k)) (by decide) (dn (b:=b6) (cs:=kJ (q,0,fM t.ns[j].k t.ns[q].k)) (k:=0) (n:=3) (T:=263) (.head _) (bq rfl)) rfl (Mr:=⟨b6,.cells (kJ (q,0,fM t.ns[j].k t.ns[q].k)).toArray 263 (0,0)⟩::(z.M g++[⟨cM,.cells t.ns[j].cells.toArray 72 (0,0)⟩])) (by exact gK (l₁:=(⟨b6,.cells (kJ (q,0,fM t.ns[j].k t.ns[q].k)).toArray 263 (0,0)⟩:aC)::(z.M g++[⟨cM,.cells t.ns[j].cells.toArray 72 (0,0)⟩])) (l₂:=[⟨b1,.cells (bo cur ((n-1)*3+1) [.int .i64 ((i+1:Nat):Int)]).toArray 263 (0,0)⟩])) (by show n+1<=_;simp only[maxLen];omega) (by show(n+1)*24<=_;omega) ?_;intro c5 c' hS dH di hQ jl;refine⟨(g,z,⟨some c5,n+1,c',hS⟩,fU++[(j,i+1,w)]++[(q,0,fM t.ns[j].k t.ns[q].k)],_),aH _ ⟨hle,Iw,⟨?_,(λh=>by cases h),λbr _=>⟨dH,di,hQ,?_⟩⟩,by simp,?_,?_,?_⟩ ?_,.perm (M1:=[⟨b6,.cells (kJ (q,0,fM t.ns[j].k t.ns[q].k)).toArray 263 (0,0)⟩,⟨cM,.cells t.ns[j].cells.toArray 72 (0,0)⟩]++(⟨c5,.cells hS.toArray 263 (0,0)⟩::z.M g)) (Iq _ _ _ _) (.sub (k2 _ _) .refl),gI,.cons rfl .nil⟩;·show _=(n+1)*3;rw[BF];simp;omega
   ·show hS.take ((n+1)*3)=_;rw[xt (fU++[(j,i+1,w)])];exact jl
   ·intro e he;simp only[dA,iM]at he;rcases he with(he | rfl) | rfl
    ·exact gi e (by simp[he])
    ·exact ar
    ·exact fV
   ·simp only;rw[xq,xq,p2,<-ld,gZ];rw[show decide (0<(i:Int))=true from bd,show lP deb t.ns (j,i,w)=[]from by simp only[lP,aa,aY]];simp
   ·simp only;rw[o3,o3];omega
   ·simp only;rw[o3,o3];omega
  ·have eI:t.ns[j].kids.length<=i:=by simp at af;omega
   have W3:=Io (deb:=deb) ar (w:=w) eI;have gZ:q3 deb t.ns (j,i,w)=m3 t.ns[j]++(bif w then [41]else []):=by rw[W3];simp only[lP,aa,aY,nW]
   have pU:=Ez t.ns[j];refine aM.mk _ (dn (T:=72) (b:=cM) (cs:=t.ns[j].cells) (k:=0) (n:=9) (.head _) (bq rfl)) ?_;refine a7.mk [] (⟨cM,.cells t.ns[j].cells.toArray 72 (0,0)⟩::⟨b1,.cells cur.toArray 263 (0,0)⟩::x.M g) _ (.refl _) (Ig m4.c m4.p m4.s n8 iB) ?_;rintro v xv mi -⟨rfl,rfl,rfl⟩;refine a7.mk (x.M g) [⟨cM,.cells t.ns[j].cells.toArray 72 (0,0)⟩,⟨b1,.cells cur.toArray 263 (0,0)⟩] _ (gK (l₁:=[_,_])) (qW g BH _ (by show _+(m3 t.ns[j]).length<=_;omega)) ?_;rintro v EF Iv -⟨rfl,rfl,a,av,ij,rfl⟩;have OL:a.bU.length<=2412*t.ns.length+2410:=by rw[ij,cD];show _+(m3 t.ns[j]).length<=_;omega
   refine aM.mk [.bool w] (kH (b:=b1) (cs:=cur) (T:=263) (by simp[bb.aV]) ED) ?_;refine aR.mk (λhw=>?_) (λhw=>?_)
   ·subst hw;refine a7.mk (a.M g) [⟨cM,.cells t.ns[j].cells.toArray 72 (0,0)⟩,⟨b1,.cells cur.toArray 263 (0,0)⟩] _ (by simp) (ml g av 41 (by omega)) ?_;rintro v OM ON -⟨rfl,rfl,c,aF,gT,rfl⟩;refine a6.mk (((n-1:Nat)):Int) o5 ?_;refine h5.mk 0 (n-1) rfl rfl (bk _) (by show n-1<=dI;omega) ?_;refine aR.mk (λbd=>?_) (λbd=>?_)
    ·have iC:0<n-1:=by simp at bd;omega
     refine⟨(g,c,⟨some b1,n-1,dI,cur⟩,fU,_),aH _ ⟨hle,aF,⟨?_,(λh=>by cases h),λbr _=>⟨eo,by show n-1<=dI;omega,ke,?_⟩⟩,?_,λe he=>gi e (by simp[he]),?_,?_⟩ ?_,.perm (M1:=[⟨cM,.cells t.ns[j].cells.toArray 72 (0,0)⟩]++(⟨b1,.cells cur.toArray 263 (0,0)⟩::c.M g)) (gK (l₂:=[_,_])) (.sub (k2 _ _) .refl),gI,.cons rfl .nil⟩;·exact gY
     ·show cur.take ((n-1)*3)=_;rw[ig,<-gY];exact oQ rfl
     ·intro h;simp only at h;rw[h]at ms;simp at ms;omega
     ·simp only;rw[gT,ij,<-ld,gZ];simp[strOf]
     ·simp only;omega
     ·simp only[lb];omega
    ·have iC:n-1=0:=by simp at bd;omega
     have q8:fU=[]:=lD (by omega);have lR:c.bU=kI deb t.ns t.root:=by rw[gT,ij,<-ld,gZ,q8];simp[q4,strOf]
     refine a7.mk (c.M g) [⟨cM,.cells t.ns[j].cells.toArray 72 (0,0)⟩,⟨b1,.cells cur.toArray 263 (0,0)⟩] _ (by simp) (tL g aF (by rw[lR];omega)) ?_;rintro v ze zf -⟨rfl,rfl,rfl⟩;refine⟨_,_,.sub (gu _) .refl,?_,hle,rfl⟩;rw[lR];rfl
   ·subst hw;refine a6.mk (((n-1:Nat)):Int) o5 ?_;refine h5.mk 0 (n-1) rfl rfl (bk _) (by show n-1<=dI;omega) ?_;refine aR.mk (λbd=>?_) (λbd=>?_)
    ·have iC:0<n-1:=by simp at bd;omega
     refine⟨(g,a,⟨some b1,n-1,dI,cur⟩,fU,_),aH _ ⟨hle,av,⟨?_,(λh=>by cases h),λbr _=>⟨eo,by show n-1<=dI;omega,ke,?_⟩⟩,?_,λe he=>gi e (by simp[he]),?_,?_⟩ ?_,.perm (M1:=[⟨cM,.cells t.ns[j].cells.toArray 72 (0,0)⟩]++(⟨b1,.cells cur.toArray 263 (0,0)⟩::a.M g)) (gK (l₂:=[_,_])) (.sub (k2 _ _) .refl),gI,.cons rfl .nil⟩;·exact gY
     ·show cur.take ((n-1)*3)=_;rw[ig,<-gY];exact oQ rfl
     ·intro h;simp only at h;rw[h]at ms;simp at ms;omega
     ·simp only;rw[ij,<-ld,gZ];simp[strOf]
     ·simp only;omega
     ·simp only[lb];omega
    ·have iC:n-1=0:=by simp at bd;omega
     have q8:fU=[]:=lD (by omega);have lR:a.bU=kI deb t.ns t.root:=by rw[ij,<-ld,gZ,q8];simp[q4,strOf]
     refine a7.mk (a.M g) [⟨cM,.cells t.ns[j].cells.toArray 72 (0,0)⟩,⟨b1,.cells cur.toArray 263 (0,0)⟩] _ (by simp) (tL g av (by rw[lR];omega)) ?_;rintro v ze zf -⟨rfl,rfl,rfl⟩;refine⟨_,_,.sub (gu _) .refl,?_,hle,rfl⟩;rw[lR];rfl
def OO{c:Code}{K:jD}{t1 t2 t3:Nat}{a b d:cF}{e:Option (List Value)}(h:∀ G xu,V X c (e5 (e5 (e5 G t3 d) t2 b) t1 a) (g8 xu t1 e) I M K)
  (aa:F t1=a) (ab:F t2=b) (ai:F t3=d) (aQ:C t1=e):V X c F C I M K:=by
 have:=h F C;rwa [Ip ai,Ip ab,Ip aa,WZ aQ]at this
def W4(bO:ih I deb)(az:t.ok I)(aw:t.n<=1024):Spec Tryz.prog 187 [t.val] I [] λr I' M'=>r=.string (strOf (n7 deb t))/\(∀ b o,I b=some o->I' b=some o)/\M'=[]:=by
 refine b8 [3] aT Tryz.func187 rfl rfl rfl ?_;intro B au;have vk:=az.n;cases ao:right t with
 |true=>
  have Ix:n7 deb t=kI deb t.ns t.root:=by simp[n7,ao]
  rw[Ix];have Ej:=HW ao;obtain⟨r,mY⟩:=qM Ej.1;have p1:r<t.ns.length:=by omega
  obtain⟨ns,EG,oa,EH,root⟩:=t;simp only at mY;subst mY;have mY:(⟨ns,EG,oa,EH,Int.ofNat r⟩:db).root=Int.ofNat r:=rfl;refine cX.scope aT rfl (λy:Nat×BG=>OG ⟨ns,EG,oa,EH,Int.ofNat r⟩ y.1 y.2) (λ_=>0) (λy=>EB I deb ⟨ns,EG,oa,EH,Int.ofNat r⟩ y.2) (λy=>sA ns y.2.2.2.1) (λ_=>OF (EA (Tryz.f187.body.getD .skip)) 0) (λ_ _=>⟨by kernel_rfl,by kernel_rfl⟩) ?_ ?_
  ·refine a7.mk [] [] _ (.refl _) (y3 bO.c az) ?_;rintro v I' M' -⟨rfl,rfl,rfl⟩;rw[ao];refine aR.mk (λh=>by cases h) (λ_=>?_);refine cC.mk λg aG xf=>?_;refine cC.mk λeW vK afT=>?_;refine OO (t1:=1) (t2:=3) (t3:=4) (λG xu=>OH bO az ao aw (p:=λl y=>EB _ deb ⟨ns,EG,oa,EH,Int.ofNat r⟩ y.2/\0=l) (g:=g) (eA.new,⟨some eW,1,1,kJ (r,0,false)⟩,[(r,0,false)],I') ?_ (λy aL _=>⟨aL,rfl⟩) B au G xu) rfl rfl rfl rfl;refine⟨λ_ _ h=>h,eA.Em,⟨rfl,(λh=>by cases h),λbr _=>⟨rfl,bS _,by simp only[maxLen];omega,rfl⟩⟩,by simp,?_,?_,?_⟩
   ·intro e he;simp only[iM]at he;subst he;exact p1
   ·simp only[q4,List.reverse_singleton,qO,List.flatMap_nil,en];have c8:=OD (deb:=deb) ao p1 false;simp only at c8 |-;rw[c8];simp[eA.new,paren]
   ·have aa:=OE ao p1 false;have ab:=WY ao;simp only[Eu]at aa ab;simp only[sA,eh,pT,sc,List.sum_nil];omega
  ·rintro⟨g,x⟩ae;refine OO (t1:=1) (t2:=3) (t3:=4) (λG xu=>OH bO az ao aw (g:=g) x ae (λy aL aU=>⟨⟨aL,rfl⟩,aU⟩) B au G xu) rfl rfl rfl rfl
 |false=>
  have Ix:n7 deb t=[]:=by simp[n7,ao]
  rw[Ix];refine cX.scope aT rfl (ι:=Empty) (λe=>nomatch e) (λe=>nomatch e) (λe=>nomatch e) (λe=>nomatch e) (λ_=>.skip) (λe=>nomatch e) ?_ (λe=>nomatch e);refine a7.mk [] [] _ (.refl _) (y3 bO.c az) ?_;rintro v I' M' -⟨rfl,rfl,rfl⟩;rw[ao];refine aR.mk (λ_=>?_) (λh=>by cases h);exact⟨_,_,.refl,rfl,λ_ _ h=>h,rfl⟩
def bP.val(d:bP):Value:=.agg #[.string d.name,.slice d.t.a d.t.n d.t.c,.int .i64 d.t.root]
def p8(deb:List Int)(d:bP):List UInt8:=
 bif decide (strOf (n7 deb d.t)=⟨#[]⟩) || !iH d.name then []else d.name.data.toList++[32,60,45,32]++n7 deb d.t++[10]
def OP{s:ByteArray}(h:iH s=true):s.size<=32:=by unfold iH at h;simp only[bG,eC]at h;omega
def W5(deb:List Int)(d:bP):(p8 deb d).length<=37+2412*d.t.ns.length:=by
 have aa:=OA deb d.t;unfold p8;cases aF:(decide (strOf (n7 deb d.t)=⟨#[]⟩) || !iH d.name)with
 |true=>simp| false=>simp only[nU,Bx]at aF;have ab:=OP aF.2;have ai:d.name.data.toList.length=d.name.size:=rfl;simp only[aY,cD,du,iF];omega
def W6(bO:ih I deb){d:bP}(ak:d.ok I)(aw:d.t.n<=1024):Spec Tryz.prog 174 [d.val] I [] λr I' M'=>r=.string (strOf (p8 deb d))/\(∀ b o,I b=some o->I' b=some o)/\M'=[]:=by
 refine b8 [] aT Tryz.func174 rfl rfl rfl ?_;intro B au;refine a7.mk [] [] _ (.refl _) (W4 bO ak.t aw) ?_;rintro v c3 M1 -⟨rfl,cJ,rfl⟩;refine bC.mk (λaa=>?_) (λaa=>?_)
 ·refine a7.mk [] [] _ (.refl _) (Eg _ d.name) ?_;rintro v I' M' -⟨rfl,rfl,rfl⟩;refine aR.mk (λab=>?_) (λab=>?_)
  ·refine⟨_,_,.refl,?_,cJ,rfl⟩;have:p8 deb d=[]:=by unfold p8;rw[aa,ab];rfl
   rw[this];rfl
  ·have hm:iH d.name=true:=by simpa using ab
   have ab:=OP hm;have ai:d.name.data.toList.length=d.name.size:=rfl;have aQ:=OA deb d.t;have bp:=ak.t.n;refine fk.concat (a:=d.name) (b:=strOf [32,60,45,32]) (by show _+4<=_;omega) ?_;refine fk.concat (a:=d.name++strOf [32,60,45,32]) (b:=strOf (n7 deb d.t)) (by rw[Bu];show _+4+(n7 deb d.t).length<=_;omega) ?_;refine fk.concat (a:=d.name++strOf [32,60,45,32]++strOf (n7 deb d.t)) (b:=strOf [10]) (by rw[Bu,Bu];show _+4+(n7 deb d.t).length+1<=_;omega) ?_;refine⟨_,_,.refl,?_,cJ,rfl⟩;refine congrArg Value.string (y' ?_);rw[p8,aa,hm];simp[strOf]
 ·refine⟨_,_,.refl,?_,cJ,rfl⟩;have:p8 deb d=[]:=by unfold p8;rw[aa];rfl
  rw[this];rfl
def tS(deb:List Int):List bP->List UInt8->List UInt8
 |[],acc=>acc| d::ds,acc=>bif decide (strOf (p8 deb d)=⟨#[]⟩)then []else tS deb ds (acc++p8 deb d)
def W7(bO:ih I deb)(aG:g.ok I)(aw:g.n<=64)(az:∀ d∈g.ds,d.t.n<=1024):Spec Tryz.prog 155 [g.val] I [] λr I' M'=>r=.string (strOf (tS deb g.ds []))/\(∀ b o,I b=some o->I' b=some o)/\M'=[]:=by
 refine b8 [3] aT Tryz.func155 rfl rfl rfl ?_;intro B au;have ik:=aG.n;have BI:∀ d∈g.ds,d.t.ns.length<=1024:=λd ak=>by rw[(aG.ds d ak).t.n];exact az d ak
 refine cC.mk λb ag Bi=>?_;refine dh.inv (ι:=Nat×eA×aN) (λp=>{ ca:=[(3,.val (ptr b)),(8,.val (.slice g.a g.n g.c)),(9,.val (.int .i64 g.n)),(10,.val (.int .i64 p.1))],cQ:=p.2.2,dq:=p.2.1.M b }) (λp=>p.1<=g.n/\p.2.1.ok/\(∀ b o,I b=some o->p.2.2 b=some o)/\p.2.1.bU.length<=2500000*p.1/\tS deb g.ds []=tS deb (g.ds.drop p.1) p.2.1.bU) (λp=>g.n-p.1) ?_ ?_
 ·exact⟨(0,eA.new,I),⟨by simp,eA.Em,λ_ _ h=>h,by simp[eA.new],rfl⟩,.refl,ez,.nil⟩
 ·rintro⟨i,x,c3⟩⟨hi,ae,cJ,lM,lN⟩;simp only at hi ae cJ lM lN;refine aR.mk (λh=>?_) (λh=>?_)
  ·have aU:i<g.n:=by simpa using h
   have cr:i<g.ds.length:=by omega
   have iI:=aG.mono cJ;obtain⟨ad,cg,bD⟩:=iI.a3.row bP.cV aU cr;have hv:g.ds[i]∈g.ds:=dR cr;have tT:=W5 deb g.ds[i];have c8:=BI _ hv;have jL:g.ds.drop i=g.ds[i]::g.ds.drop (i+1):=fs cr;refine bs.mk ad i cg rfl aU ?_;refine aM.mk _ (bD _) ?_;refine a7.mk [] (x.M b) _ (.refl _) (W6 (bO.mono cJ) (iI.ds _ hv) (az _ hv)) ?_;rintro v gh eP -⟨rfl,jM,rfl⟩;refine aR.mk (λaa=>?_) (λaa=>?_);·refine⟨_,_,.sub (gu _) .refl,?_,λb o h=>jM _ _ (cJ _ _ h),rfl⟩;rw[lN,jL,tS,aa];rfl
   ·refine a7.mk (x.M b) [] _ (by simp) (qW b ae _ (by show _+(p8 deb g.ds[i]).length<=_;omega)) ?_;rintro v I' M' -⟨rfl,rfl,y,aL,fC,rfl⟩;have OQ:y.bU=x.bU++p8 deb g.ds[i]:=fC;have eR:IntKind.i64.wrap ((i:Int)+1)=((i+1:Nat):Int):=by rw[wrap_i64 ⟨by omega,by omega⟩];omega
    refine a6.mk _ eR ?_;refine⟨(i+1,y,_),⟨⟨by simp only;omega,aL,λb o h=>jM _ _ (cJ _ _ h),?_,?_⟩,by simp only;omega⟩,.perm (by simp) .refl,ez,.nil⟩;·simp only;rw[OQ,cD];omega
    ·simp only;rw[lN,jL,tS,aa,OQ];rfl
  ·have dE:g.n<=i:=by simpa using h
   have eG:g.ds.drop i=[]:=iU (by omega);refine a7.mk (x.M b) [] _ (by simp) (tL b ae (by omega)) ?_;rintro v I' M' -⟨rfl,rfl,rfl⟩;refine⟨_,_,.refl,?_,cJ,by simp⟩;rw[lN,eG];rfl
def W8(bO:ih I deb)(aG:g.ok I)(aw:g.n<=64)(az:∀ d∈g.ds,d.t.n<=1024):Spec Tryz.prog 116 [g.val] I [] λr I' M'=>r=.int .i64 ((tS deb g.ds []).length:Int)/\(∀ b o,I b=some o->I' b=some o)/\M'=[]:=by refine b8 [] aT Tryz.func116 rfl rfl rfl ?_;intro B au;refine a7.mk [] [] _ (.refl _) (W7 bO aG aw az) ?_;rintro v I' M' -⟨rfl,a',rfl⟩;exact⟨_,_,.refl,rfl,a',rfl⟩
def mv(ns:List a1)(kind:Int):List Int->Bool
 |[]=>true| k::ks=>bif decide (lO ns k=kind)||(decide (lO ns k=0)&&decide (kind=4))then false else mv ns kind ks
def m5(ns:List a1):List a1->Bool
 |[]=>true| d::ds=>bif !decide (d.k=4) && !decide (d.k=5)then m5 ns ds else bif mv ns d.k d.kids then m5 ns ds else false
def normal(t:db):Bool:=right t&&m5 t.ns t.ns
def cY(h:i<=140737488355328):IntKind.i64.wrap ((i:Int)+1)=((i+1:Nat):Int):=by rw[wrap_i64 ⟨by omega,by omega⟩];omega
def W9(aF:nZ I)(az:t.ok I):Spec Tryz.prog 84 [t.val] I [] (λv I' M'=>v=.bool (normal t)/\I'=I/\M'=[]):=by
 refine b8 [] aT Tryz.func84 rfl rfl rfl ?_;intro B au;have aw:=az.n;have p0:=az.a3.cap;refine a7.mk [] [] _ (.refl _) (y3 aF az) ?_;rintro v I' M' -⟨rfl,rfl,rfl⟩;refine aR.mk (λh=>?_) (λh=>?_)
 ·refine⟨_,_,.refl,?_,rfl,rfl⟩;simp[normal,show right t=false by simpa using h]
 ·have ao:right t=true:=by simpa using h
  have ef:normal t=m5 t.ns t.ns:=by simp[normal,ao]
  rw[ef];refine dh.inv (ι:=Nat) (λi=>{ ca:=[(1,.ref 1 0),(12,.val (.slice t.a t.n t.c)),(13,.val (.int .i64 t.n)),(14,.val (.int .i64 i))],cl:=[(1,t.cells)],cQ:=I' }) (λi=>i<=t.n/\m5 t.ns t.ns=m5 t.ns (t.ns.drop i)) (λi=>t.n-i) ?_ ?_;·exact⟨0,⟨by simp,rfl⟩,.refl,ez,.cons rfl .nil⟩
  ·rintro i⟨hi,gi⟩;refine aR.mk (λh=>?_) (λh=>?_)
   ·have aU:i<t.n:=by simpa using h
    have cr:i<t.ns.length:=by omega
    obtain⟨ad,cg,bD⟩:=az.a3.row a1.cV aU cr;have ia:=az.ns t.ns[i] (dR cr);have dK:=ia.kn;have jL:t.ns.drop i=t.ns[i]::t.ns.drop (i+1):=fs cr;refine bs.mk ad i cg rfl aU ?_;refine aM.mk _ (bD _) ?_;refine bC.mk (λdr=>?_) (λdr=>?_)
    ·refine aR.mk (λc4=>?_) (λc4=>?_)
     ·refine a6.mk _ (cY (i:=i) (by omega)) ?_;refine⟨i+1,⟨⟨by omega,?_⟩,by omega⟩,.refl,ez,.cons rfl .nil⟩;rw[gi,jL,m5,dr,c4];rfl
     ·have mZ:m5 t.ns t.ns=bif mv t.ns t.ns[i].k t.ns[i].kids then m5 t.ns (t.ns.drop (i+1))else false:=by rw[gi,jL,m5,dr,c4];rfl
      refine dh.inv (ι:=Nat) (λj=>{ ca:=[(1,.ref 1 0),(4,.ref 4 0),(12,.val (.slice t.a t.n t.c)),(13,.val (.int .i64 t.n)),(14,.val (.int .i64 i)),(27,.val (.slice t.ns[i].kC t.ns[i].kn t.ns[i].jj)),(28,.val (.int .i64 t.ns[i].kn)),(29,.val (.int .i64 j))],cl:=[(1,t.cells),(4,t.ns[i].cells)],cQ:=I' }) (λj=>j<=t.ns[i].kn/\mv t.ns t.ns[i].k t.ns[i].kids=mv t.ns t.ns[i].k (t.ns[i].kids.drop j)) (λj=>t.ns[i].kn-j) ?_ ?_;·exact⟨0,⟨by simp,rfl⟩,.refl,rY,.cons rfl (.cons rfl .nil)⟩
      ·rintro j⟨ar,lS⟩;refine aR.mk (λh=>?_) (λh=>?_)
       ·have fp:j<t.ns[i].kn:=by simpa using h
        have lJ:j<t.ns[i].kids.length:=by omega
        obtain⟨ib,iX,gW⟩:=ia.a3.one fp lJ;have hc:t.ns[i].kids.drop j=t.ns[i].kids[j]::t.ns[i].kids.drop (j+1):=fs lJ;have hJ:=sp ao i cr _ (dR lJ);generalize H7:t.ns[i].kids[j]=W' at *;obtain⟨q,rfl⟩:=qM hJ.1;have fV:q<t.ns.length:=by omega
        have lQ:q<t.n:=by omega
        obtain⟨n',tP,tQ⟩:=az.a3.row a1.cV lQ fV;have tR:∀ M,ck I' M ((n'.add (q*9)).add 0) 1 [.int .u8 t.ns[q].k]:=λM=>(tQ M).part (k:=0) (m:=1) (by decide);have q7:lO t.ns ((q:Nat):Int)=t.ns[q].k:=by simp[lO,dT,fV]
        have bad:(decide (t.ns[q].k=t.ns[i].k)||(decide (t.ns[q].k=0)&&decide (t.ns[i].k=4)))=true->m5 t.ns t.ns=false:=λag=>by rw[mZ,lS,hc,mv,q7,ag];rfl
        have BK:(decide (t.ns[q].k=t.ns[i].k)||(decide (t.ns[q].k=0)&&decide (t.ns[i].k=4)))=false->mv t.ns t.ns[i].k t.ns[i].kids=mv t.ns t.ns[i].k (t.ns[i].kids.drop (j+1)):=λag=>by rw[lS,hc,mv,q7,ag];rfl
        have eR:=cY (i:=j) (by have:=ia.a3.cap;omega);refine bs.mk ib j iX rfl fp ?_;refine aM.mk _ (gW _) ?_;refine bs.mk n' q tP rfl lQ ?_;refine aM.mk _ (tR _) ?_;refine bC.mk (λee=>?_) (λee=>?_)
        ·refine bC.mk (λeH=>?_) (λeH=>?_)
         ·refine aR.mk (λkK=>?_) (λkK=>?_)
          ·refine⟨_,_,.refl,?_,rfl,rfl⟩;rw[bad (by rw[ee,eH,kK];rfl)]
          ·refine a6.mk _ eR ?_;exact⟨j+1,⟨⟨by omega,BK (by rw[ee,eH,kK];rfl)⟩,by omega⟩,.refl,rY,.cons rfl (.cons rfl .nil)⟩
         ·refine a6.mk _ eR ?_;exact⟨j+1,⟨⟨by omega,BK (by rw[ee,eH];rfl)⟩,by omega⟩,.refl,rY,.cons rfl (.cons rfl .nil)⟩
        ·refine⟨_,_,.refl,?_,rfl,rfl⟩;rw[bad (by rw[ee];rfl)]
       ·have xe:t.ns[i].kids.drop j=[]:=iU (by simp at h;omega);refine a6.mk _ (cY (i:=i) (by omega)) ?_;refine⟨i+1,⟨⟨by omega,?_⟩,by omega⟩,.refl,ez,.cons rfl .nil⟩;rw[mZ,lS,xe];rfl
    ·have mZ:m5 t.ns t.ns=bif mv t.ns t.ns[i].k t.ns[i].kids then m5 t.ns (t.ns.drop (i+1))else false:=by rw[gi,jL,m5,dr];rfl
     refine dh.inv (ι:=Nat) (λj=>{ ca:=[(1,.ref 1 0),(4,.ref 4 0),(12,.val (.slice t.a t.n t.c)),(13,.val (.int .i64 t.n)),(14,.val (.int .i64 i)),(27,.val (.slice t.ns[i].kC t.ns[i].kn t.ns[i].jj)),(28,.val (.int .i64 t.ns[i].kn)),(29,.val (.int .i64 j))],cl:=[(1,t.cells),(4,t.ns[i].cells)],cQ:=I' }) (λj=>j<=t.ns[i].kn/\mv t.ns t.ns[i].k t.ns[i].kids=mv t.ns t.ns[i].k (t.ns[i].kids.drop j)) (λj=>t.ns[i].kn-j) ?_ ?_;·exact⟨0,⟨by simp,rfl⟩,.refl,rY,.cons rfl (.cons rfl .nil)⟩
     ·rintro j⟨ar,lS⟩;refine aR.mk (λh=>?_) (λh=>?_)
      ·have fp:j<t.ns[i].kn:=by simpa using h
       have lJ:j<t.ns[i].kids.length:=by omega
       obtain⟨ib,iX,gW⟩:=ia.a3.one fp lJ;have hc:t.ns[i].kids.drop j=t.ns[i].kids[j]::t.ns[i].kids.drop (j+1):=fs lJ;have hJ:=sp ao i cr _ (dR lJ);generalize H7:t.ns[i].kids[j]=W' at *;obtain⟨q,rfl⟩:=qM hJ.1;have fV:q<t.ns.length:=by omega
       have lQ:q<t.n:=by omega
       obtain⟨n',tP,tQ⟩:=az.a3.row a1.cV lQ fV;have tR:∀ M,ck I' M ((n'.add (q*9)).add 0) 1 [.int .u8 t.ns[q].k]:=λM=>(tQ M).part (k:=0) (m:=1) (by decide);have q7:lO t.ns ((q:Nat):Int)=t.ns[q].k:=by simp[lO,dT,fV]
       have bad:(decide (t.ns[q].k=t.ns[i].k)||(decide (t.ns[q].k=0)&&decide (t.ns[i].k=4)))=true->m5 t.ns t.ns=false:=λag=>by rw[mZ,lS,hc,mv,q7,ag];rfl
       have BK:(decide (t.ns[q].k=t.ns[i].k)||(decide (t.ns[q].k=0)&&decide (t.ns[i].k=4)))=false->mv t.ns t.ns[i].k t.ns[i].kids=mv t.ns t.ns[i].k (t.ns[i].kids.drop (j+1)):=λag=>by rw[lS,hc,mv,q7,ag];rfl
       have eR:=cY (i:=j) (by have:=ia.a3.cap;omega);refine bs.mk ib j iX rfl fp ?_;refine aM.mk _ (gW _) ?_;refine bs.mk n' q tP rfl lQ ?_;refine aM.mk _ (tR _) ?_;refine bC.mk (λee=>?_) (λee=>?_)
       ·refine bC.mk (λeH=>?_) (λeH=>?_)
        ·refine aR.mk (λkK=>?_) (λkK=>?_)
         ·refine⟨_,_,.refl,?_,rfl,rfl⟩;rw[bad (by rw[ee,eH,kK];rfl)]
         ·refine a6.mk _ eR ?_;exact⟨j+1,⟨⟨by omega,BK (by rw[ee,eH,kK];rfl)⟩,by omega⟩,.refl,rY,.cons rfl (.cons rfl .nil)⟩
        ·refine a6.mk _ eR ?_;exact⟨j+1,⟨⟨by omega,BK (by rw[ee,eH];rfl)⟩,by omega⟩,.refl,rY,.cons rfl (.cons rfl .nil)⟩
       ·refine⟨_,_,.refl,?_,rfl,rfl⟩;rw[bad (by rw[ee];rfl)]
      ·have xe:t.ns[i].kids.drop j=[]:=iU (by simp at h;omega);refine a6.mk _ (cY (i:=i) (by omega)) ?_;refine⟨i+1,⟨⟨by omega,?_⟩,by omega⟩,.refl,ez,.cons rfl .nil⟩;rw[mZ,lS,xe];rfl
   ·have dE:t.n<=i:=by simpa using h
    have eG:t.ns.drop i=[]:=iU (by omega);refine⟨_,_,.refl,?_,rfl,rfl⟩;rw[gi,eG];rfl
def sB(t:db):Nat:=bif right t then t.n else 0
def xw(g:c1):Nat:=(g.ds.map λd=>sB d.t).sum
def OR{α:Type}(f:α->Nat)(m:Nat):∀ (l:List α),(∀ x∈l,f x<=m)->(l.map f).sum<=m*l.length
 |[],_=>by simp
 |x::l,h=>by have aa:=h x (by simp);have ab:=OR f m l λy aL=>h y (by simp[aL]);simp only[eh,sc,du,Nat.mul_add];omega
def Xa(aF:nZ I)(aG:g.ok I)(aw:g.n<=64)(az:∀ d∈g.ds,d.t.n<=1024):Spec Tryz.prog 115 [g.val] I [] (λv I' M'=>v=.int .i64 (xw g:Nat)/\I'=I/\M'=[]):=by
 refine b8 [] aT Tryz.func115 rfl rfl rfl ?_;intro B au;have ik:=aG.n;refine dh.inv (ι:=Nat) (λi=>{ ca:=[(3,.val (.int .i64 (((g.ds.take i).map λd=>sB d.t).sum:Nat))),(7,.val (.slice g.a g.n g.c)),(8,.val (.int .i64 g.n)),(9,.val (.int .i64 i))],cQ:=I }) (λi=>i<=g.n) (λi=>g.n-i) ?_ ?_
 ·exact⟨0,by simp,.refl,ez,.nil⟩
 ·intro i hi;refine aR.mk (λh=>?_) (λh=>?_)
  ·have aU:i<g.n:=by simpa using h
   have cr:i<g.ds.length:=by omega
   obtain⟨ad,cg,bD⟩:=aG.a3.row bP.cV aU cr;have hv:g.ds[i]∈g.ds:=dR cr;have aq:((g.ds.take i).map λd=>sB d.t).sum<=1024*(g.ds.take i).length:=OR _ 1024 _ λd ak=>by
    have:=az d (Ev ak);unfold sB;cases right d.t<;>simp
    omega
   have ay:=Ea i g.ds;have gH:sB g.ds[i].t<=1024:=by
    have:=az _ hv;unfold sB;cases right g.ds[i].t<;>simp
    omega
   refine bs.mk ad i cg rfl aU ?_;refine aM.mk _ (bD _) ?_;refine a7.mk [] [] _ (.refl _) (Wg aF (aG.ds _ hv).t) ?_;rintro v I' M' -⟨rfl,rfl,rfl⟩;have ax:(bif right g.ds[i].t then(g.ds[i].t.n:Int)else 0)=(sB g.ds[i].t:Nat):=by
    unfold sB;cases right g.ds[i].t<;>rfl
   rw[ax];refine a6.mk ((((g.ds.take (i+1)).map λd=>sB d.t).sum:Nat):Int) ?_ ?_;·rw[wrap_i64 ⟨by omega,by omega⟩,jw cr,hq,Ie];simp
   refine a6.mk _ (cY (i:=i) (by omega)) ?_;exact⟨i+1,⟨by omega,by omega⟩,.refl,ez,.nil⟩
  ·have dE:g.n<=i:=by simpa using h
   refine⟨_,_,.refl,?_,rfl,rfl⟩;rw[hN (by omega)];rfl
def tU(deb:List Int)(g:c1):Bool:=
 decide (64<g.n)||((!g.ds.all λd=>qV d.t)||(decide (1024<xw g)||decide (8192<(tS deb g.ds []).length)))
def Xb(bO:ih I deb)(aG:g.ok I):Spec Tryz.prog 85 [g.val] I [] (λv I' M'=>v=.bool (tU deb g)/\(∀ b o,I b=some o->I' b=some o)/\M'=[]):=by
 refine b8 [] aT Tryz.func85 rfl rfl rfl ?_;intro B au;have ik:=aG.n;refine aR.mk (λaa=>?_) (λaa=>?_)
 ·refine⟨_,_,.refl,?_,λ_ _ h=>h,rfl⟩;have:64<g.n:=by simp at aa;omega
  simp[tU,this]
 ·have aw:g.n<=64:=by simp at aa;omega
  have bT:tU deb g=((!g.ds.all λd=>qV d.t)||(decide (1024<xw g)||decide (8192<(tS deb g.ds []).length))):=by
   have:¬ 64<g.n:=by omega
   simp[tU,this]
  rw[bT];refine dh.inv (ι:=Nat) (λi=>{ ca:=[(1,.ref 1 0),(10,.val (.slice g.a g.n g.c)),(11,.val (.int .i64 g.n)),(12,.val (.int .i64 i))],cl:=[(1,[.slice g.a g.n g.c])],cQ:=I }) (λi=>i<=g.n/\(g.ds.take i).all (λd=>qV d.t)=true) (λi=>g.n-i) ?_ ?_;·exact⟨0,⟨by simp,rfl⟩,.refl,ez,.cons rfl .nil⟩
  ·rintro i⟨hi,gg⟩;refine aR.mk (λh=>?_) (λh=>?_)
   ·have aU:i<g.n:=by simpa using h
    have cr:i<g.ds.length:=by omega
    obtain⟨ad,cg,bD⟩:=aG.a3.row bP.cV aU cr;have hv:g.ds[i]∈g.ds:=dR cr;refine bs.mk ad i cg rfl aU ?_;refine aM.mk _ (bD _) ?_;refine a7.mk [] [] _ (.refl _) (Wj bO.c (aG.ds _ hv).t) ?_;rintro v I' M' -⟨rfl,rfl,rfl⟩;refine aR.mk (λab=>?_) (λab=>?_)
    ·refine⟨_,_,.refl,?_,λ_ _ h=>h,rfl⟩;have aD:qV g.ds[i].t=false:=by simpa using ab
     have:(g.ds.all λd=>qV d.t)=false:=by rw[Ia];exact⟨_,hv,by simp[aD]⟩
     rw[this];rfl
    ·have aD:qV g.ds[i].t=true:=by simpa using ab
     refine a6.mk _ (cY (i:=i) (by omega)) ?_;refine⟨i+1,⟨⟨by omega,?_⟩,by omega⟩,.refl,ez,.cons rfl .nil⟩;rw[jw cr,By,gg];simp[aD]
   ·have dE:g.n<=i:=by simpa using h
    rw[hN (by omega)]at gg;rw[gg];have OS:∀ d∈g.ds,d.t.n<=1024:=λd ak=>by have:=gR.1 gg d ak;unfold qV at this;simp only[bG,eC]at this;exact this.1
    refine a7.mk [] [] _ (.refl _) (Xa bO.c aG aw OS) ?_;rintro v I' M' -⟨rfl,rfl,rfl⟩;refine bC.mk (λab=>?_) (λab=>?_)
    ·refine a7.mk [] [] _ (.refl _) (W8 bO aG aw OS) ?_;rintro v gh M' -⟨rfl,jM,rfl⟩;refine⟨_,_,.refl,?_,jM,rfl⟩;have mX:¬ 1024<xw g:=by simp at ab;omega
     simp[mX];omega
    ·refine⟨_,_,.refl,?_,λ_ _ h=>h,rfl⟩;have mX:1024<xw g:=by simp at ab;omega
     simp[mX]
def dz(name:ByteArray):List bP->Nat->Int
 |[],_=>-1| d::ds,i=>bif decide (d.name=name)then(i:Int)else dz name ds (i+1)
def drop_cons{L:List α}{k:Nat}{x:α}{rest:List α}(h:L.drop k=x::rest):∃ af:k<L.length,L[k]=x/\L.drop (k+1)=rest:=by
 have af:k<L.length:=by apply Nat.lt_of_not_le;intro hle;rw[iU hle]at h;cases h
 have ak:=fs af;rw[h]at ak;obtain⟨aa,ab⟩:=List.cons.inj ak;exact⟨af,aa.symm,ab.symm⟩
def p9:Nat->List bP->List (List Value)
 |_,[]=>[]| i,d::ds=>d.t.ns.map (λn=>[.int .i64 i,n.val])++p9 (i+1) ds
def Xc(g:c1):Spec Tryz.prog 86 [g.val] I [] λr I' M'=>∃ b,r=.func (.func 117) #[] #[ptr b]/\I' b=some (.cells #[.slice g.a g.n g.c] 30 (0,0))/\(∀ b o,I b=some o->I' b=some o)/\M'=[]:=by refine b8 [1] aT Tryz.func86 rfl rfl rfl ?_;intro B au;refine cC.mk λg aG xf=>?_;exact⟨_,_,.rO rfl (by simp) .refl,g,rfl,vx ..,sq aG,rfl⟩
def Xd(aG:g.ok I){b:Nat}(ag:I b=some (.cells #[.slice g.a g.n g.c] 30 (0,0))) :
  Iter Tryz.prog 117 [ptr b] I (p9 0 g.ds):=by
 intro l R qR vz cW M0 o0 jk;refine yR [] aT Tryz.func117 rfl rfl rfl ?_;intro B au;have ik:=aG.n;have p0:=aG.a3.cap;have bD:∀ (M:List aC),ck cW M ((⟨b,0,none⟩:Addr).add 0) 1 [.slice g.a g.n g.c]:=λM=>⟨rfl,_,_,_,.inl (o0 _ _ ag),rfl,rfl⟩;refine aM.mk _ (bD _) ?_;refine dh.inv (ι:=Nat×Nat×aN×List aC) (λx=>{ ca:=[(0,.val (.func (.yield l) #[] #[])),(8,.val (.slice g.a g.n g.c)),(9,.val (.int .i64 g.n)),(10,.val (.int .i64 x.1))],cQ:=x.2.2.1,dq:=x.2.2.2 }) (λx=>x.1<=g.n/\(∀ b o,I b=some o->x.2.2.1 b=some o)/\R x.2.1 x.2.2.1 x.2.2.2/\x.2.1<=(p9 0 g.ds).length/\(p9 0 g.ds).drop x.2.1=p9 x.1 (g.ds.drop x.1)) (λx=>g.n-x.1) ?_ ?_
 ·exact⟨(0,0,cW,M0),⟨by simp,o0,jk,by simp,rfl⟩,.refl,ez,.nil⟩
 ·rintro⟨i,k,c3,M1⟩⟨hi,cJ,kG,fK,hf⟩;simp only at hi cJ kG fK hf;refine aR.mk (λh=>?_) (λh=>?_)
  ·have aU:i<g.n:=by simpa using h
   have cr:i<g.ds.length:=by omega
   have iI:=aG.mono cJ;obtain⟨ad,cg,Iy⟩:=iI.a3.row bP.cV aU cr;have hv:g.ds[i]∈g.ds:=dR cr;have vL:=(aG.ds _ hv).t.n;have Iz:=(aG.ds _ hv).t.a3.cap;have jL:g.ds.drop i=g.ds[i]::g.ds.drop (i+1):=fs cr;refine bs.mk ad i cg rfl aU ?_;refine aM.mk _ (Iy _) ?_;refine dh.inv (ι:=Nat×Nat×aN×List aC) (λx=>{ ca:=[(0,.val (.func (.yield l) #[] #[])),(3,.val (.int .i64 i)),(8,.val (.slice g.a g.n g.c)),(9,.val (.int .i64 g.n)),(10,.val (.int .i64 i)),(17,.val (.slice g.ds[i].t.a g.ds[i].t.n g.ds[i].t.c)),(18,.val (.int .i64 g.ds[i].t.n)),(19,.val (.int .i64 x.1))],cQ:=x.2.2.1,dq:=x.2.2.2 }) (λx=>x.1<=g.ds[i].t.n/\(∀ b o,I b=some o->x.2.2.1 b=some o)/\R x.2.1 x.2.2.1 x.2.2.2/\x.2.1<=(p9 0 g.ds).length/\(p9 0 g.ds).drop x.2.1=(g.ds[i].t.ns.drop x.1).map (λn=>[.int .i64 i,n.val])++p9 (i+1) (g.ds.drop (i+1))) (λx=>g.ds[i].t.n-x.1) ?_ ?_;·refine⟨(0,k,c3,M1),⟨by simp,cJ,kG,fK,?_⟩,.refl,rY,.nil⟩;simp only;rw[hf,jL];rfl
   ·rintro⟨j,k,c3,M1⟩⟨ar,cJ,kG,fK,hf⟩;simp only at ar cJ kG fK hf;refine aR.mk (λh=>?_) (λh=>?_)
    ·have fp:j<g.ds[i].t.n:=by simpa using h
     have lJ:j<g.ds[i].t.ns.length:=by omega
     have iI:=aG.mono cJ;obtain⟨hx,Xe,mT⟩:=(iI.ds _ hv).t.a3.row a1.cV fp lJ;have b3:g.ds[i].t.ns.drop j=g.ds[i].t.ns[j]::g.ds[i].t.ns.drop (j+1):=fs lJ;rw[b3,eh,sb]at hf;obtain⟨af,ah,mw⟩:=drop_cons hf;refine bs.mk hx j Xe rfl fp ?_;refine aM.mk _ (mT _) ?_;refine be.yield rfl (by simp) rfl rfl ?_;have aL:=vz k af c3 M1 cJ kG;rw[ah]at aL;refine Ee.mk M1 [] _ (by simp) aL ?_;rintro v gh eP jM (⟨rfl,nX⟩ | ⟨rfl,ae⟩);·refine aR.mk (λh=>by simp at h) (λ_=>?_);refine a6.mk _ (cY (i:=j) (by omega)) ?_;exact⟨(j+1,k+1,gh,eP),⟨⟨by simp only;omega,λb o h=>jM b o (cJ b o h),nX,af,mw⟩,by simp only;omega⟩,.perm (by simp) .refl,rY,.nil⟩
     ·refine aR.mk (λ_=>?_) (λh=>by simp at h);exact⟨_,_,.perm (by simp) .refl,.inr ae⟩
    ·have dE:g.ds[i].t.n<=j:=by simpa using h
     rw[iU (show g.ds[i].t.ns.length<=j by omega),pT,nW]at hf;refine a6.mk _ (cY (i:=i) (by omega)) ?_;exact⟨(i+1,k,c3,M1),⟨⟨by simp only;omega,cJ,kG,fK,hf⟩,by simp only;omega⟩,.refl,ez,.nil⟩
  ·have dE:g.n<=i:=by simpa using h
   refine⟨_,_,.refl,.inl ?_⟩;rw[iU (show g.ds.length<=i by omega)]at hf;have xj:k=(p9 0 g.ds).length:=by have:=HC.1 hf;omega
   rw[<-xj];exact kG
section
variable{X:b'}{β:Nat->Nat}{a:Act}{w:World}{F:Fr}{C:cG}{I:aN}{M:List aC}{o:Oper}{K:eF}
def bY.swap{n:Nat}{lH EI:Obj}{w':World}(h:bY X β a w F C I (⟨n,lH⟩::M))(aq:w'.heap.size=w.heap.size)(aw:w'.heap[n]?=some EI)(ag:∀ b,b≠n->w'.heap[b]?=w.heap[b]?)(an:lx w w'):bY X β a w' F C I (⟨n,EI⟩::M):=by
 have aa:=h.Nx aq ag an;have et:(⟨n,lH⟩:aC)∈(⟨n,lH⟩:aC)::M:=by simp
 have b3:=h.holds.a2;simp only[eh,kW]at b3;have mem:∀ x,x∈(⟨n,EI⟩:aC)::M->x=⟨n,EI⟩\/x∈M:=λx ae=>dv.1 ae;exact {
  size:=aa.size
  defers:=by
   obtain⟨a3,ax,aA,bj⟩:=aa.defers;obtain⟨Xf,f1,f2,f3⟩:=h.defers;refine⟨a3,ax,aA,λr ao=>{ bj r ao with dF:=λx ae=>?_ }⟩;rcases mem x ae with rfl | ae
   ·have cp:a3=Xf:=by
     have:=ax.symm.trans f1;have EJ:∀ l cd:List Nat,l.map ts=cd.map ts->l=cd:=by
      intro l
      induction l with
      |nil=>intro cd h;cases cd with
       |nil=>rfl| cons=>simp at h
      |cons y l a8=>intro cd h;cases cd with
       |nil=>simp at h
       |cons z cd=>
        simp only[eh,sw,ts,Deferred.mk.injEq]at h;have aL:y=z:=by simpa using h.1
        rw[aL,a8 cd h.2]
     exact EJ _ _ this
    subst cp;exact(f3 r ao).dF ⟨n,lH⟩ et
   ·exact(bj r ao).dF x ae
  holds:={
   i:=aa.holds.i
   m:=λx ae=>by
    rcases mem x ae with rfl | ae;·exact aw
    ·exact aa.holds.m x ae
   d:=λx ae=>by
    rcases mem x ae with rfl | ae;·exact h.holds.d ⟨n,lH⟩ et
    ·exact aa.holds.d x ae
   a2:=by simpa using b3 }
  aj:=h.aj
  bL:=λs cs jF=>by
   have qK:=h.bL s cs jF;refine { aa.bL s cs jF with dF:=λx ae=>?_ };rcases mem x ae with rfl | ae;·exact qK.dF ⟨n,lH⟩ et
   ·exact(aa.bL s cs jF).dF x ae
  inj:=h.inj
  gb:=h.gb
  fH:=h.fH
  own:=λx ae=>by
   rcases mem x ae with rfl | ae;·exact h.own ⟨n,lH⟩ et
   ·exact aa.own x ae
  cE:=aa.cE
  out:=aa.out
  sz:=aa.sz }
def ob(l:List (ByteArray×Int)):Nat->List MapEntry
 |i=>match l with
  |[]=>[]| p::l=>{ key:=.string p.1,val:=.int .i64 p.2,born:=i }::ob l (i+1)
def ki(l:List (ByteArray×Int)):Obj:=.map (ob l 0).toArray l.length
def hT(s:ByteArray):List (ByteArray×Int)->Option Int
 |[]=>none| p::l=>bif decide (s=p.1)then some p.2 else hT s l
def Xg(l:List (ByteArray×Int))(p:ByteArray×Int):∀ i,ob (l++[p]) i=ob l i++[{ key:=.string p.1,val:=.int .i64 p.2,born:=i+l.length }]:=by
 induction l with
 |nil=>intro i;simp[ob]| cons q l a8=>intro i;simp only[sb,ob,a8,du,sw,true_and,List.append_cancel_left_eq,MapEntry.mk.injEq,and_true];omega
def bytes_beq(a b:ByteArray):(a == b)=decide (a=b):=by
 rw[rL];simp only[eC];constructor
 ·intro h
  first | exact eq_of_beq h | exact pA (eq_of_beq (a:=a.data) (b:=b.data) h)
 ·rintro rfl
  first | exact As _ | exact As a.data
def IA(s:ByteArray):∀ (l:List (ByteArray×Int)) (i j:Nat),∃ r,Instr.findNow .string (.string s) (ob l i) j=some r/\r.map (·.2)=(hT s l).map (Value.int .i64)
 |[],i,j=>⟨none,rfl,rfl⟩
 |p::l,i,j=>by
  obtain⟨r,aa,ab⟩:=IA s l (i+1) (j+1);unfold ob Instr.findNow;simp only[Instr.sameNow,bytes_beq];cases ag:decide (s=p.1)with
  |true=>exact⟨_,rfl,by simp[hT,ag]⟩| false=>exact⟨r,aa,by simp only[hT,ag,aY];exact ab⟩
def be.makeMap(aI:cj X.P X.E){t:Nat}{r:Operand}(an:o.op=.makeMap t (some r))(ak:∀ d,o.dst=some d->d<X.n){k e:Nat}(az:X.E t=some cP)(da:cP.bn=.map k e)
  {q:IntKind} {n:Int} (ao:bi F r=.val (.int q n)) (h:∀ b,K (put o.dst (.val (.map (some b))) F) C I (⟨b,ki []⟩::M)):be X o F C I M K:=by
 refine⟨λa w Q ⟨β,aX⟩=>?_⟩;obtain⟨d,ev,eQ⟩:=(aI _ _ az).ep;have aa:d=.map k e:=by rw[da]at eQ;cases d<;>simp_all[ek]
 subst aa;have IB:=cw aX.aj ao;refine g9 (by rw[an];simp) (v:=.map (some w.heap.size)) (w':=w.alloc (.map #[] 0)) ?_ ⟨_,_,_,_,⟨β,bY.put (x:=.val (.map (some w.heap.size))) (aX.l' (ki [])) ak rfl⟩,h _⟩;unfold execOp;simp only[an,iz,IB];simp[Instr.makeMap,run_underlying ev,asInt,kX]
def be.lookup(aI:cj X.P X.E){t:Nat}(an:o.op=.lookup t x y true)(ak:∀ d,o.dst=some d->d<X.n){k e:Nat}(az:X.E t=some cP)(da:cP.bn=.map k e)(af:X.E k=some Bz)(lT:Bz.bn=.string)(bd:∀ w,(zeroValue e).run X.P w=.ok (.int .i64 0) w){g:Nat}{l:List (ByteArray×Int)}{s:ByteArray}(ae:bi F x=.val (.map (some g)))(aL:bi F y=.val (.string s))(a5:(⟨g,ki l⟩:aC)∈M)
  (h:K (put o.dst (.val (.tuple #[.int .i64 ((hT s l).getD 0),.bool (hT s l).isSome])) F) C I M):be X o F C I M K:=by
 refine⟨λa w Q ⟨β,aX⟩=>?_⟩;obtain⟨d,ev,eQ⟩:=(aI _ _ az).ep;have aa:d=.map k e:=by rw[da]at eQ;cases d<;>simp_all[ek]
 subst aa;obtain⟨kL,sC,ia⟩:=(aI _ _ af).ep;have ab:kL=.string:=by rw[lT]at ia;cases kL<;>simp_all[ek]
 subst ab;have aG:w.heap[g]?=some (.map (ob l 0).toArray l.length):=aX.holds.m _ a5;have ex:=cw aX.aj ae;have qT:=cw aX.aj aL;obtain⟨r,u5,sD⟩:=IA s l 0 0;have aF:(Instr.checkKey (ob l 0).toArray.isEmpty 10000 k (.string s)).run X.P w=.ok () w:=Bv (k:=.string s) sC (by simp[MapKept.IsKey]) _ 9999;have tV:(Instr.findKey k (.string s) (ob l 0)).run X.P w=.ok r w:=Bw sC u5;have eu:(Instr.lookup t (.map (some g)) (.string s) true).run X.P w=.ok (.tuple #[.int .i64 ((hT s l).getD 0),.bool (hT s l).isSome]) w:=by
  unfold Instr.lookup;simp only[bH,run_underlying ev,bx,Bt aG,ch,aF,tV];cases r with
  |none=>
   cases ay:hT s l with
   |none=>simp[bd]| some v=>rw[ay]at sD;simp at sD
  |some p=>
   cases ay:hT s l with
   |none=>rw[ay]at sD;simp at sD| some v=>rw[ay]at sD;simp only[iz,g7]at sD;simp[sD]
 refine u3 aX ak (by rw[an];simp) ?_ h;unfold execOp;simp only[an,ex,qT,bH,eu,bx,ch]
def be.Xh(aI:cj X.P X.E){t:Nat}{z:Operand}(an:o.op=.mapUpdate t x y z)(ak:o.dst=none){k e:Nat}(az:X.E t=some cP)(da:cP.bn=.map k e)(af:X.E k=some Bz)(lT:Bz.bn=.string)
  {g:Nat} {l:List (ByteArray×Int)} {s:ByteArray} {v:Int} (ae:bi F x=.val (.map (some g))) (aL:bi F y=.val (.string s)) (wT:bi F z=.val (.int .i64 v)) (ay:hT s l=none)
  {Mr:List aC} (a5:M.Perm (⟨g,ki l⟩::Mr)) (h:K F C I (⟨g,ki (l++[(s,v)])⟩::Mr)):be X o F C I M K:=by
 refine⟨λa w Q ⟨β,jk⟩=>?_⟩;have aX:bY X β a w F C I (⟨g,ki l⟩::Mr):=jk.gS (.perm a5 .refl);obtain⟨d,ev,eQ⟩:=(aI _ _ az).ep;have aa:d=.map k e:=by rw[da]at eQ;cases d<;>simp_all[ek]
 subst aa;obtain⟨kL,sC,ia⟩:=(aI _ _ af).ep;have ab:kL=.string:=by rw[lT]at ia;cases kL<;>simp_all[ek]
 subst ab;have aG:w.heap[g]?=some (.map (ob l 0).toArray l.length):=aX.holds.m ⟨g,ki l⟩ (by simp);have ex:=cw aX.aj ae;have qT:=cw aX.aj aL;have my:=cw aX.aj wT;obtain⟨r,u5,sD⟩:=IA s l 0 0;have ao:r=none:=by
  rw[ay]at sD;cases r with
  |none=>rfl| some _=>simp at sD
 subst ao;have aF:(Instr.checkKey false 10000 k (.string s)).run X.P w=.ok () w:=Bv (k:=.string s) sC (by simp[MapKept.IsKey]) _ 9999;have tV:(Instr.findKey k (.string s) (ob l 0)).run X.P w=.ok none w:=Bw sC u5;have fA:ki (l++[(s,v)])=.map ((ob l 0).toArray.push { key:=.string s,val:=.int .i64 v,born:=l.length }) (l.length+1):=by unfold ki;rw[Xg];simp
 have eu:(Instr.mapUpdate t (.map (some g)) (.string s) (.int .i64 v)).run X.P w=.ok () { w with heap:=w.heap.setIfInBounds g (ki (l++[(s,v)])) }:=by unfold Instr.mapUpdate;simp only[bH,run_underlying ev,bx,Bt aG,aF,tV,H9 _ aG,fA]
 have jH:=MapKept.heap_set (o':=ki (l++[(s,v)])) aG;refine yJ (by rw[an];simp) (w':={ w with heap:=w.heap.setIfInBounds g (ki (l++[(s,v)])) }) ?_ ⟨F,C,I,_,⟨β,?_⟩,h⟩
 ·unfold execOp;simp only[an,ex,qT,my,bH,eu,bx,ch]
 ·rw[ak];exact aX.swap (by simp) jH.1 jH.2 ⟨rfl,rfl⟩
end
def sE:Nat->List bP->List (Nat×a1)
 |_,[]=>[]| i,d::ds=>d.t.ns.map (λn=>(i,n))++sE (i+1) ds
def BL:∀ (ds:List bP) (i:Nat),p9 i ds=(sE i ds).map λp=>[.int .i64 p.1,p.2.val]
 |[],i=>rfl| d::ds,i=>by simp only[p9,sE,hq,vD,BL ds (i+1)];rfl
def xx(ds:List bP):Bool:=ds.all λd=>iH d.name&&normal d.t
def p':List (ByteArray×Int)->Nat->List bP->Option (List (ByteArray×Int))
 |acc,_,[]=>some acc| acc,i,d::ds=>bif (hT d.name acc).isSome then none else p' (acc++[(d.name,(i:Int))]) (i+1) ds
def vM(acc:List (ByteArray×Int))(n:a1):Bool:=!decide (n.k=3)||(hT n.t acc).isSome
def vN(acc:List (ByteArray×Int))(ds:List bP):Bool:=(sE 0 ds).all λp=>vM acc p.2
def jN(deb:List Int)(g:c1):Int:=
 bif decide ((g.n:Int)=0)then 4 else bif !xx g.ds then 4 else bif tU deb g then 40 else
 match p' [] 0 g.ds with
 |none=>6| some acc=>bif vN acc g.ds then 0 else 41
def q9(b:Nat)(e:Int):aC:=⟨b,.cells #[.int .i64 e] 32 (0,0)⟩
def xy{b:Nat}{e:Int}(h:q9 b e∈M):ck I M ⟨b,0,none⟩ 1 [.int .i64 e]:=
 ⟨rfl,_,_,_,.inr ⟨_,h,rfl,rfl⟩,rfl,rfl⟩
def OT(w:World):(zeroValue 3).run Tryz.prog w=.ok (.int .i64 0) w:=by
 have h:(Tryz.prog.info? 3).map (λi=>i.zero)=some (some (.int .i64 0)):=by kernel_rfl
 obtain⟨i,aa,ab⟩:=rK.1 h;simp[zeroValue,typeInfo,aa,ab]
def Xi(bO:ih I deb)(aG:g.ok I):Spec Tryz.prog 49 [g.val] I [] (λv I' M'=>v=.int .i64 (jN deb g)/\(∀ b o,I b=some o->I' b=some o)/\M'=[]):=by
 refine b8 [2,5] aT Tryz.func49 rfl rfl rfl ?_;intro B au;have ik:=aG.n;have p0:=aG.a3.cap;refine cC.mk λb9 jC afU=>?_;refine aR.mk (λaa=>?_) (λaa=>?_)
 ·refine cS.mk [] [] _ _ rfl rfl (bq rfl) rfl ?_;refine aM.mk _ (xy (b:=b9) (e:=4) (.head _)) ?_;refine⟨_,_,.sub (gu _) .refl,?_,λ_ _ h=>h,rfl⟩;rw[jN,aa];rfl
 ·have mO:g.n≠0:=by simp at aa;omega
  refine dh.inv (ι:=Nat) (λi=>{ ca:=[(1,.ref 1 0),(2,.val (ptr b9)),(19,.val (.slice g.a g.n g.c)),(20,.val (.int .i64 g.n)),(21,.val (.int .i64 i))],cl:=[(1,[.slice g.a g.n g.c])],cQ:=I,dq:=[q9 b9 0] }) (λi=>i<=g.n/\xx (g.ds.take i)=true) (λi=>g.n-i) ?_ ?_;·exact⟨0,⟨by simp,rfl⟩,.refl,iD,.cons rfl .nil⟩
  ·rintro i⟨hi,gg⟩;refine aR.mk (λh=>?_) (λh=>?_)
   ·have aU:i<g.n:=by simpa using h
    have cr:i<g.ds.length:=by omega
    obtain⟨ad,cg,bD⟩:=aG.a3.row bP.cV aU cr;have hv:g.ds[i]∈g.ds:=dR cr;have bad:(iH g.ds[i].name&&normal g.ds[i].t)=false->jN deb g=4:=λag=>by
     have:xx g.ds=false:=by unfold xx;rw[Ia];exact⟨_,hv,by simp[ag]⟩
     rw[jN,aa,this];rfl
    refine bs.mk ad i cg rfl aU ?_;refine aM.mk _ (bD _) ?_;refine a7.mk [] [q9 b9 0] _ (.refl _) (Eg _ g.ds[i].name) ?_;rintro v I' M' -⟨rfl,rfl,rfl⟩;refine bC.mk (λab=>?_) (λab=>?_)
    ·have hm:iH g.ds[i].name=true:=by simpa using ab
     refine a7.mk [] [q9 b9 0] _ (.refl _) (W9 bO.c (aG.ds _ hv).t) ?_;rintro v I' M' -⟨rfl,rfl,rfl⟩;refine aR.mk (λai=>?_) (λai=>?_)
     ·have ef:normal g.ds[i].t=false:=by simpa using ai
      refine cS.mk [] [] _ _ rfl rfl (bq rfl) rfl ?_;refine aM.mk _ (xy (b:=b9) (e:=4) (.head _)) ?_;refine⟨_,_,.sub (gu _) .refl,?_,λ_ _ h=>h,rfl⟩;rw[bad (by rw[hm,ef];rfl)];rfl
     ·have ef:normal g.ds[i].t=true:=by simpa using ai
      refine a6.mk _ (cY (i:=i) (by omega)) ?_;refine⟨i+1,⟨⟨by omega,?_⟩,by omega⟩,.refl,iD,.cons rfl .nil⟩;unfold xx at gg |-;rw[jw cr,By,gg];simp[hm,ef]
    ·have hm:iH g.ds[i].name=false:=by simpa using ab
     refine cS.mk [] [] _ _ rfl rfl (bq rfl) rfl ?_;refine aM.mk _ (xy (b:=b9) (e:=4) (.head _)) ?_;refine⟨_,_,.sub (gu _) .refl,?_,λ_ _ h=>h,rfl⟩;rw[bad (by rw[hm];rfl)];rfl
   ·have dE:g.n<=i:=by simpa using h
    rw[hN (by omega)]at gg;refine a7.mk [] [q9 b9 0] _ (.refl _) (Xb bO aG) ?_;rintro v c3 M' -⟨rfl,cJ,rfl⟩;refine aR.mk (λab=>?_) (λab=>?_);·refine cS.mk [] [] _ _ rfl rfl (bq rfl) rfl ?_;refine aM.mk _ (xy (b:=b9) (e:=40) (.head _)) ?_;refine⟨_,_,.sub (gu _) .refl,?_,cJ,rfl⟩;rw[jN,aa,gg,ab];rfl
    ·have Xj:jN deb g=match p' [] 0 g.ds with
       |none=>6| some acc=>bif vN acc g.ds then 0 else 41:=by
      rw[jN,aa,gg,ab];rfl
     rw[Xj];have iI:=aG.mono cJ;refine be.makeMap aT rfl (by simp) rfl rfl rfl λjm=>?_;refine cC.mk λhg Xk afV=>?_;refine cS.mk [] [⟨jm,ki []⟩,q9 b9 0] _ _ rfl rfl (bq rfl) rfl ?_;refine dh.inv (ι:=Nat×List (ByteArray×Int)) (λx=>{ ca:=[(1,.ref 1 0),(2,.val (ptr b9)),(5,.val (ptr hg)),(43,.val (.slice g.a g.n g.c)),(44,.val (.int .i64 g.n)),(45,.val (.int .i64 x.1))],cl:=[(1,[.slice g.a g.n g.c])],cQ:=c3,dq:=[⟨hg,.cells #[.map (some jm)] 142 (0,0)⟩,⟨jm,ki x.2⟩,q9 b9 0] }) (λx=>x.1<=g.n/\p' [] 0 g.ds=p' x.2 x.1 (g.ds.drop x.1)) (λx=>g.n-x.1) ?_ ?_;·exact⟨(0,[]),⟨by simp,rfl⟩,.refl,jG,.cons rfl .nil⟩
     ·rintro⟨i,acc⟩⟨hi,mV⟩;simp only at hi mV;refine aR.mk (λh=>?_) (λh=>?_)
      ·have aU:i<g.n:=by simpa using h
       have cr:i<g.ds.length:=by omega
       obtain⟨ad,cg,bD⟩:=iI.a3.row bP.cV aU cr;have jL:g.ds.drop i=g.ds[i]::g.ds.drop (i+1):=fs cr;refine bs.mk ad i cg rfl aU ?_;refine aM.mk _ (bD _) ?_;refine aM.mk [.map (some jm)] ⟨rfl,_,_,_,.inr ⟨_,.head _,rfl,rfl⟩,rfl,rfl⟩ ?_;refine be.lookup aT rfl (by simp) rfl rfl rfl rfl (λw=>OT w) (l:=acc) (g:=jm) rfl rfl (by simp) ?_;refine aR.mk (λai=>?_) (λai=>?_);·refine cS.mk [⟨hg,.cells #[.map (some jm)] 142 (0,0)⟩,⟨jm,ki acc⟩] [] _ _ rfl rfl (bq rfl) rfl ?_;refine aM.mk _ (xy (b:=b9) (e:=6) (.tail _ (.tail _ (.head _)))) ?_;refine⟨_,_,.sub (gu _) .refl,?_,cJ,rfl⟩;rw[mV,jL,p',ai];rfl
       ·have ay:hT g.ds[i].name acc=none:=by simpa using ai
        refine aM.mk [.map (some jm)] ⟨rfl,_,_,_,.inr ⟨_,.head _,rfl,rfl⟩,rfl,rfl⟩ ?_;refine be.Xh aT rfl rfl rfl rfl rfl rfl rfl rfl rfl ay (Mr:=[⟨hg,.cells #[.map (some jm)] 142 (0,0)⟩,q9 b9 0]) (List.Perm.swap _ _ _) ?_;refine a6.mk _ (cY (i:=i) (by omega)) ?_;refine⟨(i+1,acc++[(g.ds[i].name,(i:Int))]),⟨⟨by simp only;omega,?_⟩,by simp only;omega⟩,.perm (List.Perm.swap _ _ _) .refl,jG,.cons rfl .nil⟩;simp only;rw[mV,jL,p',ai];rfl
      ·have OU:g.n<=i:=by simpa using h
       have eQ:p' [] 0 g.ds=some acc:=by rw[mV,iU (by omega),p']
       rw[eQ];refine a7.mk [] [⟨hg,.cells #[.map (some jm)] 142 (0,0)⟩,⟨jm,ki acc⟩,q9 b9 0] _ (.refl _) (Xc g) ?_;rintro v gh eP -⟨b1,rfl,IC,jM,rfl⟩;have ic:=iI.mono jM;have OV:∀ b o,I b=some o->gh b=some o:=λb o h=>jM _ _ (cJ _ _ h);refine cX.range aT rfl rfl rfl .refl (Xd ic IC) (λvs h=>?_) (λk I' M'=>(∀ b o,gh b=some o->I' b=some o)/\((sE 0 g.ds).take k).all (λp=>vM acc p.2)=true/\M'=[⟨hg,.cells #[.map (some jm)] 142 (0,0)⟩,⟨jm,ki acc⟩,q9 b9 0]) (λex I' M'=>ex=.ret/\(∀ b o,gh b=some o->I' b=some o)/\vN acc g.ds=false/\M'=[⟨hg,.cells #[.map (some jm)] 142 (0,0)⟩,⟨jm,ki acc⟩,q9 b9 41]) ⟨λ_ _ h=>h,rfl,rfl⟩ ?_ ?_ ?_;·rw[BL]at h;obtain⟨p,_,rfl⟩:=dO.1 h;rfl
       ·rintro k af I' M' -⟨n6,aW,rfl⟩l B au kB;have OW:k<(sE 0 g.ds).length:=by simpa[BL]using af
        generalize aH:(sE 0 g.ds)[k]=p;have ah:(p9 0 g.ds)[k]=[.int .i64 p.1,p.2.val]:=by simp only[BL,nV,aH]
        rw[ah];have next:vM acc p.2=true->((sE 0 g.ds).take (k+1)).all (λp=>vM acc p.2)=true:=λh=>by rw[jw OW,By,aW,aH];simp[h]
        refine aR.mk (λai=>?_) (λai=>?_)
        ·refine⟨_,_,.refl,n6,next ?_,rfl⟩;have g0:decide (p.2.k=3)=false:=by simpa using ai
         simp[vM,g0]
        ·have g0:decide (p.2.k=3)=true:=by simpa using ai
         refine aM.mk [.map (some jm)] ⟨rfl,_,_,_,.inr ⟨_,.head _,rfl,rfl⟩,rfl,rfl⟩ ?_;refine be.lookup aT rfl (by simp) rfl rfl rfl rfl (λw=>OT w) (l:=acc) (g:=jm) rfl rfl (by simp) ?_;refine aR.mk (λaQ=>?_) (λaQ=>?_)
         ·refine cS.mk [⟨hg,.cells #[.map (some jm)] 142 (0,0)⟩,⟨jm,ki acc⟩] [] _ _ rfl rfl (bq rfl) rfl ?_;refine⟨_,_,.refl,rfl,n6,?_,rfl⟩;unfold vN;rw[Ia];have ID:(hT p.2.t acc).isSome=false:=by simpa using aQ
          exact⟨p,by rw[<-aH];exact dR OW,by simp[vM,g0,ID]⟩
         ·have ID:(hT p.2.t acc).isSome=true:=by simpa using aQ
          exact⟨_,_,.refl,n6,next (by simp[vM,ID]),rfl⟩
       ·rintro I' M' -⟨n6,aW,rfl⟩;have IE:vN acc g.ds=true:=by unfold vN;rw[hN (by simp[BL])]at aW;exact aW
        refine cS.mk [⟨hg,.cells #[.map (some jm)] 142 (0,0)⟩,⟨jm,ki acc⟩] [] _ _ rfl rfl (bq rfl) rfl ?_;refine aM.mk _ (xy (b:=b9) (e:=0) (.tail _ (.tail _ (.head _)))) ?_;refine⟨_,_,.sub (gu _) .refl,?_,λb o h=>n6 _ _ (OV _ _ h),rfl⟩;simp only[IE];rfl
       ·rintro ex I' M' -⟨rfl,n6,IE,rfl⟩;refine⟨by simp,?_⟩;refine aM.mk _ (xy (b:=b9) (e:=41) (.tail _ (.tail _ (.head _)))) ?_;refine⟨_,_,.sub (gu _) .refl,?_,λb o h=>n6 _ _ (OV _ _ h),rfl⟩;simp only[IE];rfl
structure sF where
 a:Option Addr
 n:Nat
 c:Nat
 l:List Int
def sF.val(r:sF):Value:=.slice r.a r.n r.c
structure sF.ok(I:aN)(r:sF):Prop where
 a3:dt I r.a r.n r.c 1 8 (r.l.map (.int .i64 ·))
def sF.ok.n{r:sF}(h:r.ok I):r.l.length=r.n:=by have:=h.a3.len;simpa using this
def sF.ok.mono{r:sF}(h:r.ok I)(a':∀ b o,I b=some o->I' b=some o):r.ok I':=⟨h.a3.mono a'⟩
structure fW where
 rows:List sF
 a:Option Addr
 n:Nat
 c:Nat
def fW.val(x:fW):Value:=.slice x.a x.n x.c
structure fW.ok(I:aN)(x:fW):Prop where
 a3:dt I x.a x.n x.c 1 24 (x.rows.map sF.val)
 rows:∀ r∈x.rows,r.ok I
def fW.ok.n{x:fW}(h:x.ok I):x.rows.length=x.n:=by have:=h.a3.len;simpa using this
def fW.ok.mono{x:fW}(h:x.ok I)(a':∀ b o,I b=some o->I' b=some o):x.ok I':=⟨h.a3.mono a',λr ao=>(h.rows r ao).mono a'⟩
def sG:bb:=⟨none,0,0,[]⟩
def xz(size:Nat):sG.ok size []:=⟨by simp[sG],λ_=>⟨rfl,rfl⟩,λg h=>by cases h⟩
structure sH where
 a:Option Addr
 n:Nat
 c:Nat
 l:List Bool
def sH.val(r:sH):Value:=.slice r.a r.n r.c
structure sH.ok(I:aN)(r:sH):Prop where
 a3:dt I r.a r.n r.c 1 1 (r.l.map Value.bool)
def sH.ok.n{r:sH}(h:r.ok I):r.l.length=r.n:=by have:=h.a3.len;simpa using this
def sH.ok.mono{r:sH}(h:r.ok I)(a':∀ b o,I b=some o->I' b=some o):r.ok I':=⟨h.a3.mono a'⟩
def m6(m:List Bool)(k:Nat):Prop:=m.getD k false=true
def sI(m:List Bool)(o:List Int):List Int->List Bool×List Int
 |[]=>(m,o)| k::ks=>bif m.getD k.toNat false then sI m o ks else sI (m.set k.toNat true) (o++[k]) ks
def tW:List Bool->Nat
 |[]=>0| b::s=>(bif b then 0 else 1)+tW s
def OX:∀ (m:List Bool) (k:Nat),k<m.length->m.getD k false=false->tW (m.set k true)+1=tW m
 |b::m,0,_,h=>by
  have:b=false:=by simpa using h
  subst this;simp[tW];omega
 |b::m,k+1,af,h=>by have:=OX m k (by simpa using af) (by simpa using h);simp only[List.set_cons_succ,tW];omega
def IF{k a:Nat}(af:k<m.length):m6 (m.set k true) a ↔ a=k\/m6 m a:=by
 unfold m6;simp only[dT,r8];by_cases e:k=a
 ·subst e;simp[af]
 ·rw[b7 e];constructor
  ·exact .inr
  ·rintro(h | h)
   ·exact(e h.symm).elim
   ·exact h
def valid(n:Nat)(l:List Int):Prop:=∀ k∈l,0<=k/\k<n
structure Xl(m:List Bool)(o ks:List Int)(r:List Bool×List Int):Prop where
 len:r.1.length=m.length
 mono:∀ a,m6 m a->m6 r.1 a
 all:∀ k∈ks,m6 r.1 k.toNat
 only:∀ a,m6 r.1 a->m6 m a\/((a:Int)∈ks/\(a:Int)∈r.2)
 kx:∀ k∈o,k∈r.2
 news:∀ k∈r.2,k∈o\/(k∈ks/\m6 r.1 k.toNat)
 EC:2*tW r.1+r.2.length<=2*tW m+o.length
def IG{n:Nat}:∀ (ks:List Int) (m:List Bool) (o:List Int),m.length=n->valid n ks->Xl m o ks (sI m o ks)
 |[],m,o,_,_=>⟨rfl,λ_ h=>h,λk af=>by simp at af,λa h=>.inl h,λk h=>h,λk h=>.inl h,bS _⟩
 |k::ks,m,o,hm,ah=>by
  have af:=ah k (by simp);have j5:valid n ks:=λx ae=>ah x (by simp[ae]);have fK:k.toNat<m.length:=by omega
  unfold sI;cases ag:m.getD k.toNat false with
  |true=>
   have h:=IG ks m o hm j5;simp only[aZ];refine⟨h.len,h.mono,λx ae=>?_,λa av=>?_,h.kx,λx ae=>?_,h.EC⟩
   ·rcases dv.1 ae with rfl | ae
    ·exact h.mono _ ag
    ·exact h.all x ae
   ·rcases h.only a av with aa | aa
    ·exact .inl aa
    ·exact .inr ⟨by simp[aa.1],aa.2⟩
   ·rcases h.news x ae with aa | aa
    ·exact .inl aa
    ·exact .inr ⟨by simp[aa.1],aa.2⟩
  |false=>
   have h:=IG ks (m.set k.toNat true) (o++[k]) (by simpa using hm) j5;have aq:=OX m k.toNat fK ag;have OY:m6 (sI (m.set k.toNat true) (o++[k]) ks).1 k.toNat:=h.mono _ ((IF fK).2 (.inl rfl));have Xm:k∈(sI (m.set k.toNat true) (o++[k]) ks).2:=h.kx k (by simp);simp only[aY];refine⟨by rw[h.len];simp,λa av=>h.mono a ((IF fK).2 (.inr av)),λx ae=>?_,λa av=>?_,λx ae=>h.kx x (by simp[ae]),λx ae=>?_,?_⟩
   ·rcases dv.1 ae with rfl | ae
    ·exact OY
    ·exact h.all x ae
   ·rcases h.only a av with aa | aa
    ·rcases(IF fK).1 aa with rfl | aa
     ·have e:((k.toNat:Nat):Int)=k:=by omega
      rw[e];exact .inr ⟨by simp,Xm⟩
     ·exact .inl aa
    ·exact .inr ⟨by simp[aa.1],aa.2⟩
   ·rcases h.news x ae with aa | aa
    ·simp only[dA,iM]at aa;rcases aa with aa | rfl
     ·exact .inl aa
     ·exact .inr ⟨by simp,OY⟩
    ·exact .inr ⟨by simp[aa.1],aa.2⟩
   ·have:=h.EC;simp only[cD,du,iF]at this;omega
inductive Comes(L:List (List Int))(i:Nat):Nat->Prop
 |self:Comes L i i| next {a k:Nat} (h:Comes L i a) (af:(k:Int)∈L.getD a []):Comes L i k
structure IH(L:List (List Int))(i:Nat)(m:List Bool)(o:List Int):Prop where
 len:m.length=L.length
 val:valid L.length o
 OZ:∀ k∈o,m6 m k.toNat
 cl:∀ a,m6 m a->(a:Int)∈o\/∀ k∈L.getD a [],m6 m k.toNat
 O0:∀ a,m6 m a->Comes L i a
 self:m6 m i
def IH.step(cI:∀ l∈L,valid L.length l){o:List Int}{w:Int}(h:IH L i m (o++[w])) :
  IH L i (sI m o (L.getD w.toNat [])).1 (sI m o (L.getD w.toNat [])).2/\2*tW (sI m o (L.getD w.toNat [])).1+(sI m o (L.getD w.toNat [])).2.length<2*tW m+(o++[w]).length:=by
 have hw:=h.val w (by simp);have O1:w.toNat<L.length:=by omega
 have Xn:L.getD w.toNat []=L[w.toNat]:=by simp[dT,O1]
 have ah:valid L.length (L.getD w.toNat []):=by rw[Xn];exact cI _ (dR O1)
 have v:=IG (L.getD w.toNat []) m o h.len ah;have HZ:=h.OZ w (by simp);have Xo:=h.O0 _ HZ;refine⟨⟨v.len.trans h.len,λk af=>?_,λk af=>?_,λa av=>?_,λa av=>?_,v.mono _ h.self⟩,?_⟩
 ·rcases v.news k af with aa | aa
  ·exact h.val k (by simp[aa])
  ·exact ah k aa.1
 ·rcases v.news k af with aa | aa
  ·exact v.mono _ (h.OZ k (by simp[aa]))
  ·exact aa.2
 ·rcases v.only a av with aa | aa
  ·rcases h.cl a aa with ab | ab
   ·simp only[dA,iM]at ab;rcases ab with ab | ab
    ·exact .inl (v.kx _ ab)
    ·have e:a=w.toNat:=by omega
     subst e;exact .inr v.all
   ·exact .inr λk af=>v.mono _ (ab k af)
  ·exact .inl aa.2
 ·rcases v.only a av with aa | aa
  ·exact h.O0 a aa
  ·exact .next Xo aa.1
 ·have:=v.EC;simp only[cD,du,iF];omega
def O2{pre post:List Value}{z:Value}{k:Nat}(af:k=pre.length):bo (pre++z::post) k [v]=pre++v::post:=by
 subst af;unfold bo;have e:(pre++z::post).drop (pre.length+[v].length)=post:=by rw[show pre++z::post=(pre++[z])++post from by simp];exact HD (by simp)
 rw[e,oQ rfl];simp
def O3(R:List (List Bool))(i k:Nat):Bool:=(R.getD i []).getD k false
def II(R:List (List Bool))(i k:Nat):Prop:=O3 R i k=true/\O3 R k i=true
def II.symm{R:List (List Bool)}(h:II R i j):II R j i:=⟨h.2,h.1⟩
def Comes.trans{k:Nat}(aa:Comes L i j)(ab:Comes L j k):Comes L i k:=by
 induction ab with
 |self=>exact aa| next _ af a8=>exact .next a8 af
structure zg where
 rows:List sH
 a:Option Addr
 n:Nat
 c:Nat
def zg.val(x:zg):Value:=.slice x.a x.n x.c
structure zg.ok(I:aN)(x:zg):Prop where
 a3:dt I x.a x.n x.c 1 24 (x.rows.map sH.val)
 rows:∀ r∈x.rows,r.ok I
def zg.ok.mono{x:zg}(h:x.ok I)(a':∀ b o,I b=some o->I' b=some o):x.ok I':=⟨h.a3.mono a',λr ao=>(h.rows r ao).mono a'⟩
def m7(W:World):aN:=λb=>W.heap[b]?
def Xp(W:World):dC (m7 W) [] W:=⟨λb o h=>h,(λx ae=>by cases ae),(λx ae=>by cases ae),wJ⟩
structure xA(W ht:World):Prop where
 cE:∀ b,b<W.heap.size->ht.heap[b]?=W.heap[b]?
 sz:W.heap.size<=ht.heap.size
 out:lx W ht
def O4{f:Nat}{args:List Value}{post:Value->aN->List aC->Prop}(h:rN P f args (m7 W) [] post) :
  Calls P f args.toArray W λe ht=>∃ v,e=.returned v/\(∃ I' M',post v I' M')/\xA W ht:=by
 refine(h.2 W (Xp W)).mono ?_;rintro e ht⟨v,I',M',rfl,aH,_,dB⟩;exact⟨v,rfl,⟨I',M',aH⟩,λb ag=>dB.cE b ag (λy aL=>by cases aL),dB.sz,dB.out⟩
def xA.kept(h:xA W ht)(may:MemPlace->Prop):W.keptBut ht may:=by
 refine⟨h.out.1,h.out.2,λi hi=>?_⟩;rw[h.cE i hi];cases W.heap[i]? with
 |none=>rfl| some o=>cases o<;>simp
def xA.frozen(h:xA W ht){a:Addr}(av:a.block<W.heap.size):ht.frozen? a=W.frozen? a:=by unfold World.frozen?;rw[h.cE _ av]
variable{H:Type}{enc:TypeId×Value->H}{P:Program}
def O5{f:Func}{s:ChangeSpec}{apart fresh handsOn again:Bool}{args:Array Value}{ds gs:List (DataW H)}{before pa pv:List MemPlace}(gr:DataW.Whole enc P f.params.toList s.vars apart W args.toList ds gs before)(BM:∀ (b:Nat) (dW:Nat->Bool) (ak:Bool),DataW.TrodAll enc P ht b dW ak f.resultTypes.toList (v.resultList f.resultTypes.size) (s.fn H (ds++gs)).results [])(kj:∀ dW:Nat->Bool,(∀ p∈before,dW p.block=true)->DataW.TrodAll enc P ht 0 dW true f.params.toList args.toList (s.fn H (ds++gs)).args pa)(O6:∀ dW:Nat->Bool,(∀ p∈before,dW p.block=true)->DataW.TrodVars enc P ht dW s.vars (s.fn H (ds++gs)).vars pv)(lf:before=pa++pv)(af:xA W ht)(aW:∀ (j:Nat) (t:TypeId) (r:Value),f.resultTypes[j]?=some t->(v.resultList f.resultTypes.size)[j]?=some r->Value.okWide P ht .any 0 t r) :
  s.post enc P f apart fresh handsOn again W args v ht:=by
 have hold:∀ p∈before,(λb=>decide (b<W.heap.size)) p.block=true:=λp aH=>by simpa using gr.lt p aH
 have aU:∀ p∈before,p.block<W.heap.size:=λp aH=>gr.lt p aH;refine⟨ds,gs,before,[],pa,pv,gr,BM _ _ _,kj _ hold,O6 _ hold,World.keptBut_mono (λp aH=>⟨aH,?_⟩) (af.kept (·∈before)),λ_=>?_⟩
 ·rw[lf,dA]at aH;exact Or.inr aH
 ·obtain⟨_,_,_,_,_,bd,aw⟩:=gr;refine⟨aW,_,_,([]++pa)++pv,⟨[]++pa,pv,ChangeShapes.trodAll_append (kj _ (λ_ _=>rfl)) (BM _ _ _),O6 _ (λ_ _=>rfl),rfl,?_,?_⟩,?_⟩
  ·intro b off aH;have zh:MemPlace.cell b off∈before:=by rw[lf];simpa using aH
   rw[af.frozen (a:=⟨b,off,none⟩) (aU _ zh)];exact bd b off zh
  ·intro av;have:=aw av;rw[lf]at this;simpa using this
  ·intro p aH _;rw[lf];simpa using aH
def tX:DataW H->Option Value
 | .lit (.int k z)=>some (.int k z)| .lit (.string l)=>some (.string ⟨l.toArray⟩)| .lit (.bool b)=>some (.bool b)| _=>none
def BN(P:Program)(e:TypeId):Bool:=match P.underlying e with
 |some .bool | some (.int _) | some .string=>true| _=>false
section
variable{w:World}{base:Nat}{dW:Nat->Bool}{held:Bool}{fuel:Nat}{t e:TypeId}{cs:List Value}{d:DataW H}{p:List MemPlace}
def O7(he:BN P e=true)(h:DataW.trod enc P w base dW held fuel e cs=some (d,p))(ah:tX d=some v):cs=[v]:=by
 unfold BN at he;split at he
 ·rename_i hu;obtain⟨b,rfl,ae⟩:=DataW.trod_bool hu h;cases ae;simpa[tX]using ah
 ·rename_i k hu;obtain⟨n,rfl,ae,_⟩:=DataW.trod_int hu h;cases ae;simpa[tX]using ah
 ·rename_i hu;obtain⟨s,rfl,ae,_⟩:=Ew hu h;cases ae;simpa[tX]using ah
 ·cases he
def EK{α β:Type}{f:α->Option β}:∀ {l:List α} {r:List β},l.mapM f=some r->r.length=l.length/\∀ i (h:i<l.length) (bf:i<r.length),f l[i]=some r[i]
 |[],r,h=>by simp at h;subst h;exact⟨rfl,λi h=>by simp at h⟩
 |x::l,r,h=>by
  simp only[Av,Option.bind_eq_bind,GZ,Option.pure_def,g7]at h;obtain⟨b,ag,pP,fw,rfl⟩:=h;obtain⟨aa,ab⟩:=EK fw;refine⟨by simp[aa],λi hi c6=>?_⟩;cases i with
  |zero=>simpa using ag| succ i=>simpa using ab i (by simpa using hi) (by simpa using c6)
def O8(ay:cs.length=vs.length)(h:∀ i (hi:i<vs.length),(cs.drop i).take 1=[vs[i]]):cs=vs:=by apply yX ay;intro i aa ab;have:=h i ab;rw[fs aa,qN,qP]at this;simpa using this
def O9{n:Nat}(az:P.underlying t=some (.array n e))(he:BN P e=true)(m8:P.cellsOf e=1)(ie:P.cellsOf t=n){ds:List (DataW H)}(h:DataW.trod enc P w base dW held fuel t cs=some (.agg ds,p))(ah:ds.mapM tX=some vs):cs=vs:=by
 obtain⟨xs,m,rfl,ae,ay,lM,hi⟩:=Ic az h;have lg:ds=xs.map (·.1):=by have:=congrArg Prod.fst ae;simpa using this
 obtain⟨aO,aP⟩:=EK ah;have o7:vs.length=n:=by rw[aO,lg];simpa using lM
 refine O8 (by rw[ay,ie,o7]) λi c6=>?_;have aa:=hi i (by omega);rw[m8,kA]at aa;have q':i<xs.length:=by omega
 rw[iT q']at aa;have ab:=aP i (by rw[lg];simpa using q') c6;have ai:ds[i]'(by rw[lg];simpa using q')=xs[i].1:=by simp[lg]
 rw[ai]at ab;exact O7 he (d:=xs[i].1) (p:=xs[i].2) aa ab
def Xq(az:P.underlying t=some (.struct bK))(aD:∀ (i:Nat) (f:Field),bK[i]?=some f->BN P f.type=true/\f.offset=i/\P.cellsOf f.type=1)(ie:P.cellsOf t=bK.size){ds:List (DataW H)}(h:DataW.trod enc P w base dW held fuel t cs=some (.agg ds,p))(ah:ds.mapM tX=some vs):cs=vs:=by
 obtain⟨xs,m,rfl,ae,ay,lM,hi⟩:=DataW.trod_struct az h;have lg:ds=xs.map (·.1):=by have:=congrArg Prod.fst ae;simpa using this
 obtain⟨aO,aP⟩:=EK ah;have o7:vs.length=bK.size:=by rw[aO,lg];simpa using lM
 refine O8 (by rw[ay,ie,o7]) λi c6=>?_;have O':i<bK.size:=by omega
 obtain⟨dr,c4,fy⟩:=aD i bK[i] (Ar O');have aa:=hi i bK[i] (Ar O');rw[c4,fy]at aa;have q':i<xs.length:=by omega
 rw[iT q']at aa;have ab:=aP i (by rw[lg];simpa using q') c6;have ai:ds[i]'(by rw[lg];simpa using q')=xs[i].1:=by simp[lg]
 rw[ai]at ab;exact O7 dr (d:=xs[i].1) (p:=xs[i].2) aa ab
def Pa{sz:Nat}:∀ (rows:List (List Value)) (cs:List Value),cs.length=rows.length*sz->(∀ i (hi:i<rows.length),(cs.drop (i*sz)).take sz=rows[i])->cs=rows.flatten
 |[],cs,ay,_=>lD (by simpa using ay)
 |r::rows,cs,ay,h=>by
  have au:=h 0 (by simp);simp only[A7,yY,w2]at au;rw[du,iV,oR]at ay;have a8:=Pa (sz:=sz) rows (cs.drop sz) (by rw[r9];omega) λi hi=>by have:=h (i+1) (by simpa using hi);rw[w6,show sz+i*sz=(i+1)*sz from by rw[iV];omega];simpa using this
  rw[Ib,<-a8,<-au,w3]
def Xr{n:Nat}(az:P.underlying t=some (.array n e))(m8:P.cellsOf e=sz)(ie:P.cellsOf t=n*sz){ds:List (DataW H)}(h:DataW.trod enc P w base dW held fuel t cs=some (.agg ds,p))(ao:rows.length=ds.length)
  (gi:∀ i (hi:i<ds.length) (c6:i<rows.length) fuel cs p,DataW.trod enc P w base dW held fuel e cs=some (ds[i],p)->cs=rows[i]):cs=rows.flatten:=by
 obtain⟨xs,m,rfl,ae,ay,lM,hi⟩:=Ic az h;have lg:ds=xs.map (·.1):=by have:=congrArg Prod.fst ae;simpa using this
 have p1:rows.length=n:=by rw[ao,lg];simpa using lM
 refine Pa (sz:=sz) rows cs (by rw[ay,ie,p1]) λi c6=>?_;have aa:=hi i (by omega);rw[m8]at aa;have q':i<xs.length:=by omega
 rw[iT q']at aa;have ai:ds[i]'(by rw[lg];simpa using q')=xs[i].1:=by simp[lg]
 exact gi i (by rw[lg];simpa using q') c6 m _ xs[i].2 (by rw[ai];exact aa)
def Pb(d:DataW H):Option (List Value):=match d with
 | .agg l=>l.mapM tX| _=>none
def IJ{n:Nat}(az:P.underlying t=some (.array n e))(m8:P.cellsOf e=sz)(ie:P.cellsOf t=n*sz){ds:List (DataW H)}(h:DataW.trod enc P w base dW held fuel t cs=some (.agg ds,p))(ao:ds.mapM Pb=some rows)
  (gi:∀ fuel cs p l row,DataW.trod enc P w base dW held fuel e cs=some (.agg l,p)->l.mapM tX=some row->cs=row):cs=rows.flatten:=by
 obtain⟨aO,aP⟩:=EK ao;refine Xr az m8 ie h aO λi hi c6 fuel cs p bf=>?_;have ab:=aP i hi c6;unfold Pb at ab;split at ab
 ·rename_i l ay;rw[ay]at bf;exact gi _ _ _ _ _ bf ab
 ·cases ab
end
end Go.V
namespace Go.V
open Go Go.Proofs
variable{d:a1}{hi:Int}{P:Program}{t:db}{x y:Operand}{I I':aN}{i j sz size fuel base pl:Nat}{deb:List Int}{g:c1}{w:Bool}{F:Fr}{C:cG}{M:List aC}{vs cs:List Value}{α:Type}{X:b'}{cP Bz:dw}{v:Value}{m:List Bool}{L:List (List Int)}{W ht:World}{bK:Array Field}{rows:List (List Value)}{p:List MemPlace}
def EL{n:String}{g:Nat}{cs:Array Value}(aG:P.globalNamed n=some g)(h:W.var? P n=some cs):∃ T aj,W.heap[g]?=some (.cells cs T aj):=by
 simp only[World.var?,aG,Option.bind_some]at h;split at h
 ·rename_i c T aj a4;cases h;exact⟨T,aj,a4⟩
 ·cases h
def jn:List Int:=[0,1,56,2,57,49,28,3,61,58,42,50,38,29,17,4,62,47,59,36,45,43,51,22,53,39,33,30,24,18,12,5,63,55,48,27,60,41,37,16,46,35,44,21,52,32,23,11,54,26,40,15,34,20,31,10,25,14,19,9,13,8,7,6]
def Xs{rest:List (String×DataW Unit)}(h:laidMet Tryz.prog ([("math/bits.deBruijn32tab",YtelfblhcphnbmaaGreatDoor.Rows.laid_math_bits_deBruijn32tab),("math/bits.deBruijn64tab",YtelfblhcphnbmaaGreatDoor.Rows.laid_math_bits_deBruijn64tab),("internal/strconv.uint64pow10",YtelfblhcphnbmaaGreatDoor.Rows.laid_internal_strconv_uint64pow10),("bonsai/tree.counts",YtelfblhcphnbmaaGreatDoor.Rows.laid_bonsai_tree_counts),("bonsai/print.counts",YtelfblhcphnbmaaGreatDoor.Rows.laid_bonsai_print_counts),("bonsai/print.signs",YtelfblhcphnbmaaGreatDoor.Rows.laid_bonsai_print_signs)]++rest) W):ih (m7 W) jn:=by
 obtain⟨ps,cI,_⟩:=h;obtain⟨aO,t1,afW,f1,k',dH,iI,q6,wW,hf,cI,_⟩:=cI;obtain⟨aP,t2,Xt,f2,mm,di,ic,mu,rU,mw,cI,_⟩:=cI;obtain⟨br,t3,afX,f3,BO,hQ,n5,afY,qa,EM,cI,_⟩:=cI;obtain⟨eW,t4,Xu,f4,afZ,jl,vK,IK,IL,Xv,cI,_⟩:=cI;obtain⟨mj,t5,Xw,f5,af0,af1,Pc,Xx,EN,Xy,cI,_⟩:=cI;obtain⟨EO,t6,Xz,f6,af2,af3,Pd,XA,XB,XC,cI,_⟩:=cI;obtain rfl:=m0 ((show Tryz.prog.globalNamed "math/bits.deBruijn64tab" = some 6 by kernel_rfl).symm.trans ic)
 obtain rfl:=m0 ((show(Tryz.prog.globals[6]?).map (·.type)=some 309 by kernel_rfl).symm.trans mu);obtain rfl:=m0 ((show Tryz.prog.globalNamed "bonsai/tree.counts" = some 0 by kernel_rfl).symm.trans vK)
 obtain rfl:=m0 ((show(Tryz.prog.globals[0]?).map (·.type)=some 218 by kernel_rfl).symm.trans IK);obtain rfl:=m0 ((show Tryz.prog.globalNamed "bonsai/print.counts" = some 3 by kernel_rfl).symm.trans Pc)
 obtain rfl:=m0 ((show(Tryz.prog.globals[3]?).map (·.type)=some 304 by kernel_rfl).symm.trans Xx);obtain rfl:=m0 ((show Tryz.prog.globalNamed "bonsai/print.signs" = some 1 by kernel_rfl).symm.trans Pd)
 obtain rfl:=m0 ((show(Tryz.prog.globals[1]?).map (·.type)=some 269 by kernel_rfl).symm.trans XA);obtain⟨xr,gx,b9⟩:=EL ic rU;obtain⟨It,oc,eb⟩:=EL vK IL;obtain⟨XD,qb,hg⟩:=EL Pc EN;obtain⟨XE,BP,cM⟩:=EL Pd XB;have eH:Xt.toList=jn.map (Value.int .u8):=O9 (show Tryz.prog.underlying 309=some (.array 64 5) by kernel_rfl) (by kernel_rfl) (by kernel_rfl) (by kernel_rfl) mw (by kernel_rfl);have EP:Xu.toList=nY.map (Value.int .i64):=IJ (n:=10) (sz:=2) (show Tryz.prog.underlying 218=some (.array 10 126) by kernel_rfl) (by kernel_rfl) (by kernel_rfl) Xv (rows:=[[.int .i64 0,.int .i64 0],[.int .i64 0,.int .i64 0],[.int .i64 0,.int .i64 0],[.int .i64 0,.int .i64 0],[.int .i64 2,.int .i64 (-1)],[.int .i64 2,.int .i64 (-1)],[.int .i64 1,.int .i64 1],[.int .i64 1,.int .i64 1],[.int .i64 1,.int .i64 1],[.int .i64 1,.int .i64 1]]) (by kernel_rfl) (λ_ _ _ _ _ aa ab=>O9 (show Tryz.prog.underlying 126=some (.array 2 3) by kernel_rfl) (by kernel_rfl) (by kernel_rfl) (by kernel_rfl) aa ab);have fields:∀ {t:TypeId},(match Tryz.prog.underlying t with
   |some (.struct bK)=>decide (Tryz.prog.cellsOf t=bK.size)&&(List.range bK.size).all λi=>match bK[i]? with
    |some f=>BN Tryz.prog f.type&&(decide (f.offset=i)&&decide (Tryz.prog.cellsOf f.type=1))| none=>false
   |_=>false)=true->∀ (fuel:Nat) (cs:List Value) (p:List MemPlace) (l:List (DataW Unit)) (row:List Value),DataW.trod (λ_=>()) Tryz.prog W 0 (λ_=>true) false fuel t cs=some (.agg l,p)->l.mapM tX=some row->cs=row:=by
  intro t aF fuel cs p l row aa ab;split at aF;·rename_i bK hu;simp only[bG,eC,gR,l9]at aF;refine Xq hu (λi f aD=>?_) aF.1 aa ab;have hi:=aF.2 i (jx.1 aD).1;rw[aD]at hi;simpa using hi
  ·cases aF
 have EQ:Xw.toList=BA:=IJ (n:=3) (sz:=3) (show Tryz.prog.underlying 304=some (.array 3 303) by kernel_rfl) (by kernel_rfl) (by kernel_rfl) Xy (rows:=[[.int .i64 0,.int .i64 1,.string ⟨#[63]⟩],[.int .i64 0,.int .i64 (-1),.string ⟨#[42]⟩],[.int .i64 1,.int .i64 (-1),.string ⟨#[43]⟩]]) (by kernel_rfl) (fields (by kernel_rfl));have Pe:Xz.toList=q2.map λl=>Value.string (strOf l):=IJ (n:=10) (sz:=3) (show Tryz.prog.underlying 269=some (.array 10 268) by kernel_rfl) (by kernel_rfl) (by kernel_rfl) XC (rows:=[[.string ⟨#[]⟩,.string ⟨#[]⟩,.string ⟨#[]⟩],[.string ⟨#[]⟩,.string ⟨#[]⟩,.string ⟨#[]⟩],[.string ⟨#[]⟩,.string ⟨#[]⟩,.string ⟨#[]⟩],[.string ⟨#[]⟩,.string ⟨#[]⟩,.string ⟨#[]⟩],[.string ⟨#[]⟩,.string ⟨#[32]⟩,.string ⟨#[]⟩],[.string ⟨#[]⟩,.string ⟨#[32,47,32]⟩,.string ⟨#[]⟩],[.string ⟨#[]⟩,.string ⟨#[]⟩,.string ⟨#[]⟩],[.string ⟨#[38]⟩,.string ⟨#[]⟩,.string ⟨#[]⟩],[.string ⟨#[33]⟩,.string ⟨#[]⟩,.string ⟨#[]⟩],[.string ⟨#[60]⟩,.string ⟨#[]⟩,.string ⟨#[62]⟩]]) (by kernel_rfl) (fields (by kernel_rfl));have arr:∀ {cs:Array Value} {l:List Value},cs.toList=l->cs=l.toArray:=λh=>by apply fa;simpa using h
 refine⟨⟨It,oc,?_⟩,⟨XD,qb,?_⟩,⟨XE,BP,?_⟩,by decide,by decide,xr,gx,?_⟩
 ·rw[<-arr EP];exact eb
 ·rw[<-arr EQ];exact hg
 ·rw[<-arr Pe];exact cM
 ·rw[<-arr eH];exact b9
def zi(cs:Array Value):Obj->Obj
 | .cells _ t aj=>.cells cs t aj| o=>o
def XF:List Int:=(List.range 20).map λi=>(10:Int)^i
def XG:List Int:=[0,1,28,2,29,14,24,3,30,22,20,15,25,17,4,8,31,27,13,23,21,19,16,7,26,12,18,6,11,5,10,9]
noncomputable def zj(os:Os):World:=
 { World.holding Tryz.prog os ⟨#[],#[],[]⟩with heap:=((((((World.holding Tryz.prog os ⟨#[],#[],[]⟩).heap.modify 0 (zi (nY.map (Value.int .i64)).toArray)).modify 3 (zi BA.toArray)).modify 1 (zi (q2.map λl=>Value.string (strOf l)).toArray)).modify 6 (zi (jn.map (Value.int .u8)).toArray)).modify 2 (zi (XF.map (Value.int .u64)).toArray)).modify 5 (zi (XG.map (Value.int .u8)).toArray) }
def own:ownKnob Tryz.prog.godebug=none:=by kernel_rfl
def laidOut:laidOutB Tryz.prog=true:=by kernel_rfl
def ER{l:List α}{q:α->Bool}(h:l.all q=true){x:α}(ae:x∈l):q x=true:=gR.1 h x ae
def Pf{L:List (String×DataW Unit)}(cI:laidMetH Tryz.prog L W)(he:L=[("math/bits.deBruijn32tab",YtelfblhcphnbmaaGreatDoor.Rows.laid_math_bits_deBruijn32tab),("math/bits.deBruijn64tab",YtelfblhcphnbmaaGreatDoor.Rows.laid_math_bits_deBruijn64tab),("internal/strconv.uint64pow10",YtelfblhcphnbmaaGreatDoor.Rows.laid_internal_strconv_uint64pow10),("bonsai/tree.counts",YtelfblhcphnbmaaGreatDoor.Rows.laid_bonsai_tree_counts),("bonsai/print.counts",YtelfblhcphnbmaaGreatDoor.Rows.laid_bonsai_print_counts),("bonsai/print.signs",YtelfblhcphnbmaaGreatDoor.Rows.laid_bonsai_print_signs)]):ih (m7 W) jn:=by
 subst he;exact Xs (rest:=[]) cI
structure sJ(I:aN)(d:a1):Prop where
 k:0<=d.k/\d.k<256
 fT:fB d.fT
 s1:fB d.s1
 s2:fB d.s2
 gv:fB d.gv
 lo:k8 d.lo
 hi:k8 d.hi
 a3:dt I d.kC d.kn d.jj 1 0 (d.kids.map (.int .i64 ·))
 kids:∀ x∈d.kids,k8 x
 dN:d.t.size<=9223372036854775807
structure o8(I:aN)(t:db):Prop where
 a3:dt I t.a t.n t.c 9 0 (t.ns.flatMap a1.cells)
 ns:∀ d∈t.ns,sJ I d
 root:k8 t.root
structure vO(I:aN)(d:bP):Prop where
 name:d.name.size<=9223372036854775807
 t:o8 I d.t
structure od(I:aN)(g:c1):Prop where
 a3:dt I g.a g.n g.c 3 0 (g.ds.flatMap bP.cells)
 ds:∀ d∈g.ds,vO I d
def dt.xB{a:Option Addr}{n c b fe:Nat}(h:dt I a n c size b vs)(ag:n*fe<=140737488355328):dt I a n c size fe vs:=⟨h.len,⟨h.cap.1,ag⟩,h.rd⟩
structure IM(d:a1):Prop where
 kn:d.kn<2500
structure Pg(d:bP):Prop where
 name:d.name.size<2500
 n:d.t.n<2500
 ns:∀ a2∈d.t.ns,IM a2
structure XH(g:c1):Prop where
 n:g.n<2500
 ds:∀ d∈g.ds,Pg d
def sJ.ok{I:aN}{d:a1}(h:sJ I d)(aq:IM d):d.ok I:=
 ⟨h.k,h.fT,h.s1,h.s2,h.gv,h.dN,h.lo,h.hi,h.a3.xB (by have:=aq.kn;omega),h.kids⟩
def vO.ok{I:aN}{d:bP}(h:vO I d)(aq:Pg d):d.ok I:=
 ⟨by have:=aq.name;omega,⟨h.t.a3.xB (by have:=aq.n;omega),λa2 b3=>(h.t.ns a2 b3).ok (aq.ns a2 b3),h.t.root⟩⟩
def od.ok{I:aN}{g:c1}(h:od I g)(aq:XH g):g.ok I:=
 ⟨h.a3.xB (by have:=aq.n;omega),λd ak=>(h.ds d ak).ok (aq.ds d ak)⟩
def sJ.mono(h:sJ I d)(a':∀ b o,I b=some o->I' b=some o):sJ I' d:={ h with a3:=h.a3.mono a' }
def vO.mono{d:bP}(h:vO I d)(a':∀ b o,I b=some o->I' b=some o):vO I' d:=⟨h.name,h.t.a3.mono a',λa2 b3=>(h.t.ns a2 b3).mono a',h.t.root⟩
def od.mono(h:od I g)(a':∀ b o,I b=some o->I' b=some o):od I' g:=⟨h.a3.mono a',λd ak=>(h.ds d ak).mono a'⟩
def od.n(h:od I g):g.ds.length=g.n:=by have:=h.a3.len;rw[fo _ 3 bP.cV]at this;omega
def o8.n(h:o8 I t):t.ns.length=t.n:=by have:=h.a3.len;rw[fo _ 9 a1.cV]at this;omega
def ec{x r:Int}(h:x=r)(ao:-9223372036854775808<=r/\r<=9223372036854775807):IntKind.i64.wrap x=r:=by rw[h];exact wrap_i64 ao
section
variable{H:Type}{enc:TypeId×Value->H}{P:Program}{W:World}{base:Nat}{dW:Nat->Bool}{held:Bool}
def Ph{α:Type}{p:Nat->α->Prop}:∀ (n:Nat),(∀ i,i<n->∃ d,p i d)->∃ l:List α,l.length=n/\∀ i (h:i<l.length),p i l[i]
 |0,_=>⟨[],rfl,λi h=>by simp at h⟩
 |n+1,h=>by
  obtain⟨l,aa,ab⟩:=Ph n λi hi=>h i (by omega);obtain⟨d,ak⟩:=h n (by omega);refine⟨l++[d],by simp[aa],λi hi=>?_⟩;by_cases aU:i<l.length;·rw[List.getElem_append_left aU];exact ab i aU
  ·have e:i=l.length:=by simp at hi;omega
   subst e;simpa[aa]using ak
def IN{f:α->List Value}(aq:0<size)(aD:∀ x,(f x).length=size)(ok:α->Prop){t e:TypeId}(az:P.underlying t=some (.slice e))(aF:P.cellsOf e=size)(gi:∀ fuel cs x,DataW.trod enc P W base dW held fuel e cs=some x->∃ d,cs=f d/\ok d){x:DataW H×List MemPlace}(h:DataW.trod enc P W base dW held fuel t cs=some x) :
  ∃ (a:Option Addr) (n c:Nat) (l:List α),cs=[.slice a n c]/\dt (m7 W) a n c size 0 (l.flatMap f)/\l.length=n/\(∀ d∈l,ok d)/\(a=none->c=0)/\c<=maxLen:=by
 rcases DataW.trod_slice az h with⟨rfl,_⟩ | ⟨a,len,cap,af4,rest,m,_,rfl,_,ag,ay,hm,hlen,XI,_,_⟩
 ·exact⟨none,0,0,[],rfl,⟨by simp,⟨bS _,by omega⟩,.inl rfl⟩,rfl,λd ak=>by simp at ak,λ_=>rfl,by unfold maxLen;omega⟩
 have each:∀ i,i<len->∃ d,ok d/\W.cells? base (a.add (i*size)) size=some (f d):=λi hi=>by have aa:=XI i hi;rw[aF,iT (by omega)]at aa;obtain⟨cs',ab,ai⟩:=GZ.1 aa;obtain⟨d,rfl,ak⟩:=gi _ _ _ ai;exact⟨d,ak,ab⟩
 obtain⟨l,rT,IP⟩:=Ph len each;refine⟨some a,len,cap,l,rfl,⟨by rw[fo f size aD,rT],⟨ay,by omega⟩,?_⟩,rT,λd ak=>?_,λh=>by simp at h,hm⟩
 ·by_cases au:len=0
  ·exact .inl au
  right
  have mz:=(IP 0 (by omega)).2;obtain⟨-,-,BQ⟩:=World.cells?_some mz;have ES:=BQ 0 aq;rw[iT (by rw[aD];exact aq)]at ES;have Pj:a.spot=none:=by
   have:=World.cell?_spot ES;cases bI:a.spot with
   |none=>rfl| some s=>simp[Addr.add,bI]at this
  refine⟨a,rfl,Pj,?_⟩;have Pk:∀ i (hi:i<l.length),∀ k,k<size->W.cell? ⟨a.block,a.off+(i*size+k),none⟩=(f l[i])[k]?:=λi hi k af=>by obtain⟨-,-,a4⟩:=World.cells?_some (IP i hi).2;have:=a4 k af;rw[dx _ Pj,dx _ rfl]at this;rw[<-this];congr 2;simp only[];omega
  have IQ:∃ cs T aj,W.heap[a.block]?=some (.cells cs T aj):=by
   have aa:=Pk 0 (by omega) 0 aq;rw[iT (by rw[aD];exact aq)]at aa;unfold World.cell? at aa;cases a4:W.heap[a.block]? with
   |none=>simp[a4]at aa
   |some o=>
    cases o with
    |cells cs T aj=>exact⟨cs,T,aj,rfl⟩| _=>simp[a4]at aa
  obtain⟨cs,T,aj,a4⟩:=IQ;refine⟨cs,T,aj,a4,?_⟩;have ET:=fo f size aD l;apply Eb;intro j;by_cases ar:j<len*size
  ·have hdiv:j/size<l.length:=by rw[rT];exact Nat.div_lt_of_lt_mul (by rw[Nat.mul_comm];exact ar)
   have tY:=Nat.mod_lt j aq;have e:=Nat.div_add_mod j size;rw[Nat.mul_comm]at e;have aa:=Pk (j/size) hdiv (j%size) tY;rw[e]at aa;have ab:=xc f size aD l (j/size) hdiv;have ai:(l.flatMap f)[j]?=(f l[j/size])[j%size]?:=by rw[<-ab,jY,cv tY,oE,e]
   rw[ai,<-aa,jY,cv ar,oE];simp[World.cell?,a4]
  ·rw[wF (by rw[kz];omega),wF (by rw[ET,rT];omega)]
 ·obtain⟨i,hi,rfl⟩:=vC ak;exact(IP i hi).1
def xC{k:IntKind}{t:TypeId}{x:DataW H×List MemPlace}(az:P.underlying t=some (.int k))(h:DataW.trod enc P W base dW held fuel t cs=some x):∃ n,cs=[.int k n]/\(Lit.int k n).wf=true:=by obtain⟨n,aa,_,ab⟩:=DataW.trod_int az h;exact⟨n,aa,ab⟩
def wf_i64{n:Int}(h:(Lit.int .i64 n).wf=true):k8 n:=by simp[Lit.wf,IntKind.min,IntKind.max,IntKind.signed,IntKind.bits]at h;exact h
def wf_u64{n:Int}(h:(Lit.int .u64 n).wf=true):fB n:=by simp[Lit.wf,IntKind.min,IntKind.max,IntKind.signed,IntKind.bits]at h;unfold fB;omega
def wf_u8{n:Int}(h:(Lit.int .u8 n).wf=true):0<=n/\n<256:=by simp[Lit.wf,IntKind.min,IntKind.max,IntKind.signed,IntKind.bits]at h;omega
end
section
variable{H:Type}{enc:TypeId×Value->H}{W:World}{base:Nat}{dW:Nat->Bool}{held:Bool}
def XJ{x:DataW H×List MemPlace}(h:DataW.trod enc Tryz.prog W base dW held fuel 70 cs=some x) :
  ∃ (a:Option Addr) (n c:Nat) (l:List Int),cs=[.slice a n c]/\dt (m7 W) a n c 1 0 (l.map (.int .i64 ·))/\l.length=n/\∀ k∈l,k8 k:=by
 obtain⟨a,n,c,l,aa,ab,ai,aQ,-,-⟩:=IN (f:=λk=>[Value.int .i64 k]) (size:=1) (by decide) (λ_=>rfl) k8 (show Tryz.prog.underlying 70=some (.slice 3) by kernel_rfl) (by kernel_rfl)
  (λfuel cs x h=>by
   obtain⟨n,aa,ab⟩:=xC (show Tryz.prog.underlying 3=some (.int .i64) by kernel_rfl) h;exact⟨n,aa,wf_i64 ab⟩) h
 refine⟨a,n,c,l,aa,?_,ai,aQ⟩;rwa [<-List.map_eq_flatMap]at ab
def XK{l:List α}(h:l.length=4):∃ a b c d,l=[a,b,c,d]:=by
 match l,h with
 |[a,b,c,d],_=>exact⟨a,b,c,d,rfl⟩
def XL{l:List α}(h:l.length=9):∃ a b c d e f g i j,l=[a,b,c,d,e,f,g,i,j]:=by
 match l,h with
 |[a,b,c,d,e,f,g,i,j],_=>exact⟨a,b,c,d,e,f,g,i,j,rfl⟩
def XM{l:List α}(h:l.length=3):∃ a b c,l=[a,b,c]:=by
 match l,h with
 |[a,b,c],_=>exact⟨a,b,c,rfl⟩
def XN{l:List α}(h:l.length=2):∃ a b,l=[a,b]:=by
 match l,h with
 |[a,b],_=>exact⟨a,b,rfl⟩
def XO{l:List α}(h:l.length=1):∃ a,l=[a]:=by
 match l,h with
 |[a],_=>exact⟨a,rfl⟩
def XP{x:DataW H×List MemPlace}(h:DataW.trod enc Tryz.prog W base dW held fuel 69 cs=some x) :
  ∃ a b c d:Int,cs=[.int .u64 a,.int .u64 b,.int .u64 c,.int .u64 d]/\fB a/\fB b/\fB c/\fB d:=by
 obtain⟨xs,m,_,_,ay,lM,hi⟩:=Ic (show Tryz.prog.underlying 69=some (.array 4 67) by kernel_rfl) h;rw[show Tryz.prog.cellsOf 69=4 by kernel_rfl]at ay;rw[show Tryz.prog.cellsOf 67=1 by kernel_rfl]at hi;have hu:Tryz.prog.underlying 67=some (.int .u64):=by kernel_rfl
 obtain⟨a,b,c,d,rfl⟩:=XK ay;have get:∀ i,(jB:i<4)->∃ n,(([a,b,c,d]:List Value).drop (i*1)).take 1=[.int .u64 n]/\fB n:=λi jB=>by have aa:=hi i jB;rw[iT (by omega)]at aa;obtain⟨n,ab,ai⟩:=xC hu aa;exact⟨n,ab,wf_u64 ai⟩
 obtain⟨n0,bT,qc⟩:=get 0 (by decide);obtain⟨fN,ax,dr⟩:=get 1 (by decide);obtain⟨hP,aA,c4⟩:=get 2 (by decide);obtain⟨vP,bj,fy⟩:=get 3 (by decide);simp at bT ax aA bj;subst bT ax aA bj;exact⟨_,_,_,_,rfl,qc,dr,c4,fy⟩
def BR{t:Nat}{l:List (Nat×Nat)}(h:(match P.underlying t with
  |some (.struct bK)=>decide (bK.toList.map (λf=>(f.type,f.offset))=l)| _=>false)=true):∃ bK,P.underlying t=some (.struct bK)/\bK.toList.map (λf=>(f.type,f.offset))=l:=by
 split at h
 ·rename_i bK hu;exact⟨bK,hu,c9 h⟩
 ·cases h
def EU{P:Program}{l:List (Nat×Nat)}{q:Nat->Nat->Prop}(aD:bK.toList.map (λf=>(f.type,f.offset))=l)(h:∀ (i:Nat) (f:Field),bK[i]?=some f->q f.type f.offset):∀ (i t o:Nat),l[i]?=some (t,o)->q t o:=by subst aD;intro i t o hi;simp only[G5,rK,Prod.mk.injEq]at hi;obtain⟨f,aa,rfl,rfl⟩:=hi;exact h i f (by simpa using aa)
def EV{t:TypeId}{x:DataW H×List MemPlace}(az:P.underlying t=some (.struct bK))(h:DataW.trod enc P W base dW held fuel t cs=some x) :
  cs.length=P.cellsOf t/\∀ (i:Nat) (f:Field),bK[i]?=some f->∃ fuel y,DataW.trod enc P W base dW held fuel f.type ((cs.drop f.offset).take (P.cellsOf f.type))=some y:=by
 obtain⟨xs,m,_,_,ay,lM,hi⟩:=DataW.trod_struct az h;refine⟨ay,λi f aD=>?_⟩;have aU:=(jx.1 aD).1;have aa:=hi i f aD;rw[iT (by omega)]at aa;exact⟨_,_,aa⟩
def XQ{x:DataW H×List MemPlace}(h:DataW.trod enc Tryz.prog W base dW held fuel 72 cs=some x):∃ d:a1,cs=d.cells/\sJ (m7 W) d:=by obtain⟨bK,az,aD⟩:∃ bK,Tryz.prog.underlying 72=some (.struct bK)/\bK.toList.map (λf=>(f.type,f.offset))=[(5,0),(69,1),(9,5),(3,6),(3,7),(70,8)]:=BR (by kernel_rfl);obtain⟨ay,hi⟩:=EV az h;have hi:∀ (i t o:Nat),[(5,0),(69,1),(9,5),(3,6),(3,7),(70,8)][i]?=some (t,o)->∃ fuel y,DataW.trod enc Tryz.prog W base dW held fuel t ((cs.drop o).take (Tryz.prog.cellsOf t))=some y:=EU (P:=Tryz.prog) aD hi;rw[show Tryz.prog.cellsOf 72=9 by kernel_rfl]at ay;obtain⟨mz,ee,eH,kK,EP,EQ,Pe,af5,af6,rfl⟩:=XL ay;obtain⟨_,_,au⟩:=hi 0 _ _ rfl;obtain⟨_,_,aa⟩:=hi 1 _ _ rfl;obtain⟨_,_,ab⟩:=hi 2 _ _ rfl;obtain⟨_,_,ai⟩:=hi 3 _ _ rfl;obtain⟨_,_,aQ⟩:=hi 4 _ _ rfl;obtain⟨_,_,bp⟩:=hi 5 _ _ rfl;rw[show Tryz.prog.cellsOf 5=1 by kernel_rfl]at au;rw[show Tryz.prog.cellsOf 69=4 by kernel_rfl]at aa;rw[show Tryz.prog.cellsOf 9=1 by kernel_rfl]at ab;rw[show Tryz.prog.cellsOf 3=1 by kernel_rfl]at ai aQ;rw[show Tryz.prog.cellsOf 70=1 by kernel_rfl]at bp;obtain⟨k,bT,XR⟩:=xC (show Tryz.prog.underlying 5=some (.int .u8) by kernel_rfl) au;obtain⟨a,b,c,d,ax,hb,h',lF,hO⟩:=XP aa;obtain⟨s,aA,-,ws⟩:=Ew (show Tryz.prog.underlying 9=some .string by kernel_rfl) ab;obtain⟨lo,bj,wl⟩:=xC (show Tryz.prog.underlying 3=some (.int .i64) by kernel_rfl) ai;obtain⟨c6,cp,XS⟩:=xC (show Tryz.prog.underlying 3=some (.int .i64) by kernel_rfl) aQ;obtain⟨kC,kn,jj,kids,eX,k0,dK,n4⟩:=XJ bp;simp at bT ax aA bj cp eX;obtain⟨IR,IS,XT,XU⟩:=ax;subst bT IR IS XT XU aA bj cp eX;exact⟨⟨k,a,b,c,d,s,lo,c6,kC,kn,jj,kids⟩,rfl,wf_u8 XR,hb,h',lF,hO,wf_i64 wl,wf_i64 XS,k0,n4,by unfold maxLen at ws;omega⟩
def XV{x:DataW H×List MemPlace}(h:DataW.trod enc Tryz.prog W base dW held fuel 47 cs=some x):∃ t:db,cs=t.cells/\o8 (m7 W) t:=by obtain⟨bK,az,aD⟩:∃ bK,Tryz.prog.underlying 47=some (.struct bK)/\bK.toList.map (λf=>(f.type,f.offset))=[(45,0),(3,1)]:=BR (by kernel_rfl);obtain⟨ay,hi⟩:=EV az h;have hi:∀ (i t o:Nat),[(45,0),(3,1)][i]?=some (t,o)->∃ fuel y,DataW.trod enc Tryz.prog W base dW held fuel t ((cs.drop o).take (Tryz.prog.cellsOf t))=some y:=EU (P:=Tryz.prog) aD hi;rw[show Tryz.prog.cellsOf 47=2 by kernel_rfl]at ay;obtain⟨mz,ee,rfl⟩:=XN ay;obtain⟨_,_,au⟩:=hi 0 _ _ rfl;obtain⟨_,_,aa⟩:=hi 1 _ _ rfl;rw[show Tryz.prog.cellsOf 45=1 by kernel_rfl]at au;rw[show Tryz.prog.cellsOf 3=1 by kernel_rfl]at aa;obtain⟨a,n,c,l,bT,k0,aw,aW,-,-⟩:=IN (f:=a1.cells) (size:=9) (by decide) a1.cV (sJ (m7 W)) (show Tryz.prog.underlying 45=some (.slice 72) by kernel_rfl) (by kernel_rfl) (λfuel cs x h=>XQ h) au;obtain⟨r,ax,wr⟩:=xC (show Tryz.prog.underlying 3=some (.int .i64) by kernel_rfl) aa;simp at bT ax;subst bT ax;exact⟨⟨l,a,n,c,r⟩,rfl,k0,aW,wf_i64 wr⟩
def XW{x:DataW H×List MemPlace}(h:DataW.trod enc Tryz.prog W base dW held fuel 66 cs=some x):∃ d:bP,cs=d.cells/\vO (m7 W) d:=by obtain⟨bK,az,aD⟩:∃ bK,Tryz.prog.underlying 66=some (.struct bK)/\bK.toList.map (λf=>(f.type,f.offset))=[(9,0),(47,1)]:=BR (by kernel_rfl);obtain⟨ay,hi⟩:=EV az h;have hi:∀ (i t o:Nat),[(9,0),(47,1)][i]?=some (t,o)->∃ fuel y,DataW.trod enc Tryz.prog W base dW held fuel t ((cs.drop o).take (Tryz.prog.cellsOf t))=some y:=EU (P:=Tryz.prog) aD hi;rw[show Tryz.prog.cellsOf 66=3 by kernel_rfl]at ay;obtain⟨mz,ee,eH,rfl⟩:=XM ay;obtain⟨_,_,au⟩:=hi 0 _ _ rfl;obtain⟨_,_,aa⟩:=hi 1 _ _ rfl;rw[show Tryz.prog.cellsOf 9=1 by kernel_rfl]at au;rw[show Tryz.prog.cellsOf 47=2 by kernel_rfl]at aa;obtain⟨s,bT,-,ws⟩:=Ew (show Tryz.prog.underlying 9=some .string by kernel_rfl) au;obtain⟨t,ax,az⟩:=XV aa;simp[db.cells]at bT ax;obtain⟨IR,IS⟩:=ax;subst bT IR IS;exact⟨⟨s,t⟩,rfl,by unfold maxLen at ws;exact ws,az⟩
def XX{x:DataW H×List MemPlace}(h:DataW.trod enc Tryz.prog W base dW held fuel 30 cs=some x):∃ g:c1,cs=[.slice g.a g.n g.c]/\od (m7 W) g:=by obtain⟨bK,az,aD⟩:∃ bK,Tryz.prog.underlying 30=some (.struct bK)/\bK.toList.map (λf=>(f.type,f.offset))=[(28,0)]:=BR (by kernel_rfl);obtain⟨ay,hi⟩:=EV az h;have hi:∀ (i t o:Nat),[(28,0)][i]?=some (t,o)->∃ fuel y,DataW.trod enc Tryz.prog W base dW held fuel t ((cs.drop o).take (Tryz.prog.cellsOf t))=some y:=EU (P:=Tryz.prog) aD hi;rw[show Tryz.prog.cellsOf 30=1 by kernel_rfl]at ay;obtain⟨mz,rfl⟩:=XO ay;obtain⟨_,_,au⟩:=hi 0 _ _ rfl;rw[show Tryz.prog.cellsOf 28=1 by kernel_rfl]at au;obtain⟨a,n,c,l,bT,k0,aw,aW,-,-⟩:=IN (f:=bP.cells) (size:=3) (by decide) bP.cV (vO (m7 W)) (show Tryz.prog.underlying 28=some (.slice 66) by kernel_rfl) (by kernel_rfl) (λfuel cs x h=>XW h) au;exact⟨⟨l,a,n,c⟩,bT,k0,aW⟩
def XY{w:World}{r:Reach}{t:Nat}(az:P.underlying t=some (.struct bK))(h:Value.okWide P w r base t v):∃ cs,v=.agg cs:=by obtain⟨cs,aa,-⟩:=Go.WideShapes.okWide_struct az h;exact⟨cs,aa⟩
set_option maxRecDepth 100000 in
def Pl{d:DataW H}(h:DataW.Trod enc Tryz.prog W 0 (λ_=>true) true 30 v d p)(ah:Value.okWide Tryz.prog W .any base 30 v):∃ g:c1,v=g.val/\od (m7 W) g:=by obtain⟨bK,az,-⟩:=BR (P:=Tryz.prog) (t:=30) (l:=[(28,0)]) (by kernel_rfl);obtain⟨cs,rfl⟩:=XY az ah;obtain⟨fuel,aD⟩:=h;obtain⟨g,e,aG⟩:=XX aD;refine⟨g,?_,aG⟩;have bc:cs.toList=[.slice g.a g.n g.c]:=e;cases cs;simp only at bc;subst bc;rfl
end
def IT{H:Type}{enc:TypeId×Value->H}{P:Program}(ay:laidOutB P=true){W ht:World}(af:xA W ht):∀ {dN:List TypeId} {vs:List Value} {ds:List (DataW H)} {ps:List MemPlace},(∀ t∈dN,P.readableRec t=true/\t<P.types.size) -> DataW.TrodAll enc P W 0 (λ_=>true) true dN vs ds ps->(∀ p∈ps,p.block<W.heap.size)->∀ dW:Nat->Bool,(∀ p∈ps,dW p.block=true)->DataW.TrodAll enc P ht 0 dW true dN vs ds ps
 |[],[],[],_,_,h,_,_,_=>h
 |t::dN,v::vs,d::ds,_,az,⟨p,q,aa,ab,e⟩,aU,dW,aq=>by
  subst e;refine⟨p,q,?_,?_,rfl⟩
  ·refine Go.WideElems.Trod_stays ay (az t (.head _)).1 (az t (.head _)).2 aa (λx ae=>?_) (λx ae=>aq x (dA.2 (.inl ae)));have cr:=aU x (dA.2 (.inl ae));cases x with
   |cell b o=>exact World.cell?_of_block (w:=W) (af.cE b cr)| map b=>exact af.cE b cr
  ·exact IT ay af (λt h=>az t (.tail _ h)) ab (λx ae=>aU x (dA.2 (.inr ae))) dW (λx ae=>aq x (dA.2 (.inr ae)))
def Pm:mapsRowed Tryz.prog=true:=by kernel_rfl
def Pn:Tryz.prog.stopsHeard=true:=by kernel_rfl
def Po:Tryz.prog.mayEnter=true:=by kernel_rfl
section
variable{H:Type}{enc:TypeId×Value->H}
set_option maxRecDepth 100000 in
def XZ{d:DataW H}(h:DataW.Trod enc Tryz.prog W 0 (λ_=>true) true 3 v d p)(ah:Value.okWide Tryz.prog W .any base 3 v):∃ i:Int,v=.int .i64 i/\k8 i:=by
 have az:Tryz.prog.underlying 3=some (.int .i64):=by kernel_rfl
 obtain⟨n,rfl⟩:=Go.WideShapes.okWide_int az ah;obtain⟨fuel,aD⟩:=h;obtain⟨i,bT,hw⟩:=xC az aD;have ax:[Value.int .i64 n]=[Value.int .i64 i]:=bT;simp only[sw,Value.int.injEq,true_and,and_true]at ax;subst ax;exact⟨n,rfl,wf_i64 hw⟩
set_option maxRecDepth 100000 in
def Pp{d:DataW H}(h:DataW.Trod enc Tryz.prog W 0 (λ_=>true) true 9 v d p)(ah:Value.okWide Tryz.prog W .any base 9 v):∃ s:ByteArray,v=.string s/\s.size<=9223372036854775807:=by
 have az:Tryz.prog.underlying 9=some .string:=by kernel_rfl
 obtain⟨n,rfl⟩:=Go.WideShapes.okWide_string az ah;obtain⟨fuel,aD⟩:=h;obtain⟨i,bT,-,hw⟩:=Ew az aD;have ax:[Value.string n]=[Value.string i]:=bT;simp only[sw,Value.string.injEq,and_true]at ax;subst ax;exact⟨n,rfl,by unfold maxLen at hw;exact hw⟩
end
structure oe where
 d:a1
 asks:List Nat
structure bg where
 n:Nat
 aB:Nat
 ap:Nat
structure eJ where
 a2:Nat
 pl:Nat
 times:Nat
 aB:Nat
 n:Nat
structure gk where
 kn:Nat->Nat->bg
 op:List eJ
 used:Nat
structure bu where
 ns:List oe
 s:ByteArray
 base:Nat
def EW:a1:=⟨0,0,0,0,0,⟨#[]⟩,0,0,none,0,0,[]⟩
def bu.at_(P:bu)(k:Nat):oe:=P.ns.getD k ⟨EW,[]⟩
def lh:bg:=⟨0,0,0⟩
def og(aB n:Nat):bg:=⟨min n 65537,aB,3⟩
def il:bg:=⟨0,0,2⟩
def lU(d:a1)(b:Nat):Bool:=([d.fT,d.s1,d.s2,d.gv].getD (b/64) 0).toNat.testBit (b%64)
def preB(s t:ByteArray)(at_:Nat):Bool:=decide (at_+t.size<=s.size)&&decide (s.extract at_ (at_+t.size)=t)
def sK(P:bu)(k at_:Nat):Option bg:=
 let d:=(P.at_ k).d
 bif decide (d.k=0)then some (og at_ 0)else
 bif decide (d.k=1)then(match P.s.data[at_]? with
  |some b=>bif lU d b.toNat then some (og (at_+1) 0)else some il| none=>some il)else
 bif decide (d.k=2)then(bif preB P.s d.t at_ then some (og (at_+d.t.size) 0)else some il)else
 bif decide (d.k=6)&&decide (d.hi=0)then some (og at_ 0)else none
def fX(P:bu)(f:eJ):Nat×Nat:=
 let a:=P.at_ f.a2
 bif decide (a.d.k=4)then(a.asks.getD f.times 0,f.aB)else
 bif decide (a.d.k=5)then(a.asks.getD f.times 0,f.pl)else(a.asks.getD 0 0,f.aB)
def eJ.add(f:eJ)(c:bg):eJ:=⟨f.a2,f.pl,f.times+1,c.aB,min (f.n+c.n) 65537⟩
inductive EX where
 |loop| on (f:eJ) (c:bg) (done:Bool)
def vQ(P:bu)(f:eJ)(c:bg):EX:=
 let a:=P.at_ f.a2
 bif decide (a.d.k<4)then .on f c true else
 bif decide (a.d.k=4)then(bif Nat.beq c.ap 2 then .on f c true else .on (f.add c) (og c.aB (min (f.n+c.n) 65537)) (decide (f.times+1=a.asks.length)))else
 bif decide (a.d.k=5)then(bif Nat.beq c.ap 3 then .on f c true else .on { f with times:=f.times+1 } c (decide (f.times+1=a.asks.length)))else
 bif decide (a.d.k=6)then
  (bif Nat.beq c.ap 2 then(bif decide ((f.times:Int)<a.d.lo)then .on f c true else .on f (og f.aB f.n) true)
   else bif decide (a.d.hi=-1)&&decide (c.aB=f.aB)then .loop else .on (f.add c) (og c.aB (min (f.n+c.n) 65537)) (decide (((f.times+1:Nat):Int)=a.d.hi)))else
 bif decide (a.d.k=7)then(bif Nat.beq c.ap 3 then .on f (og f.pl 0) true else .on f c true)else
 bif decide (a.d.k=8)then(bif Nat.beq c.ap 2 then .on f (og f.pl 0) true else .on f il true)else
 (bif Nat.beq c.ap 3 then .on f (og c.aB (c.n+1)) true else .on f c true)
inductive tZ where
 |begin(k at_:Nat)| hand (c:bg)
inductive EY where
 |err(e:Nat)| ok (c:bg) (S:gk)
inductive sL where
 |stop(e:EY)| more (q:tZ) (S:gk)
def jO(kn:Nat->Nat->bg)(k p:Nat)(c:bg):Nat->Nat->bg:=λcb fu=>bif Nat.beq cb k&&Nat.beq fu p then c else kn cb fu
def xD(P:bu)(c:bg)(S:gk):sL:=match S.op with
 |[]=>.stop (.err 9)
 |f::rest=>match rest with
  |[]=>.stop (.ok c { S with kn:=jO S.kn f.a2 (f.pl-P.base) c,op:=[] })| r::a3=>.more (.hand c) { S with kn:=jO S.kn f.a2 (f.pl-P.base) c,op:=r::a3 }
def xE(P:bu)(S:gk):sL:=match S.op with
 |[]=>.stop (.err 9)
 |f::_=>
  let c:=S.kn (fX P f).1 ((fX P f).2-P.base)
  bif Nat.beq c.ap 0 then .more (.begin (fX P f).1 (fX P f).2) S else
  bif Nat.beq c.ap 1 then .stop (.err 1)else .more (.hand c) S
def t'(P:bu)(k at_:Nat)(S:gk):gk:=
 ⟨jO S.kn k (at_-P.base) { S.kn k (at_-P.base)with ap:=1 },⟨k,at_,0,at_,0⟩::S.op,S.used+1⟩
def zk(P:bu)(k at_:Nat)(S:gk):sL:=match sK P k at_ with
 |some c=>xD P c (t' P k at_ S)| none=>xE P (t' P k at_ S)
def zl(P:bu)(c:bg)(S:gk):sL:=match S.op with
 |[]=>.stop (.err 9)
 |f::rest=>match vQ P f c with
  | .loop=>.stop (.err 2)| .on gw c' done=>bif done then xD P c' ⟨S.kn,gw::rest,S.used+1⟩else xE P ⟨S.kn,gw::rest,S.used+1⟩
def BS(P:bu):tZ->gk->sL
 | .begin k a,S=>zk P k a S| .hand c,S=>zl P c S
def ua(P:bu):Nat->tZ->gk->EY
 |0,_,_=>.err 0
 |n+1,q,S=>match BS P q S with
  | .stop e=>e| .more c7 iZ=>ua P n c7 iZ
structure EZ(P:bu)(a:oe):Prop where
 k:0<=a.d.k/\a.d.k<10
 asks:∀ x∈a.asks,x<P.ns.length
 many:a.d.k=4\/a.d.k=5->0<a.asks.length
 one:a.d.k=3\/6<=a.d.k->a.asks.length=1
 la:a.d.k=6->0<=a.d.lo/\a.d.lo<=99/\(a.d.hi=-1\/(a.d.lo<=a.d.hi/\a.d.hi<=99))
 len:a.asks.length<=1024
structure oh(P:bu):Prop where
 ns:∀ a∈P.ns,EZ P a
 base:P.base<=P.s.size
 size:P.s.size<=4096
structure i'(P:bu)(pl:Nat)(c:bg):Prop where
 ap:c.ap<=3
 m:c.ap=3->pl<=c.aB/\c.aB<=P.s.size/\c.n<=65537
 f:c.ap≠3->c.n=0/\c.aB=0
structure BT(P:bu)(f:eJ):Prop where
 a2:f.a2<P.ns.length
 lo:P.base<=f.pl
 pl:f.pl<=f.aB
 aB:f.aB<=P.s.size
 n:f.n<=65537
 k:3<=(P.at_ f.a2).d.k
 many:(P.at_ f.a2).d.k=4\/(P.at_ f.a2).d.k=5->f.times<(P.at_ f.a2).asks.length
 la:(P.at_ f.a2).d.k=6->(P.at_ f.a2).d.hi≠0/\((P.at_ f.a2).d.hi=-1->f.times<=f.aB-f.pl)/\((P.at_ f.a2).d.hi≠-1->(f.times:Int)<(P.at_ f.a2).d.hi)
 one:(P.at_ f.a2).d.k=3\/7<=(P.at_ f.a2).d.k->f.times=0/\f.aB=f.pl
def zm(P:bu):List eJ->Prop
 |[]=>True| [_]=>True| f::r::a3=>fX P r=(f.a2,f.pl)/\zm P (r::a3)
structure sM(P:bu)(S:gk):Prop where
 op:∀ f∈S.op,BT P f
 kn:∀ k p,i' P (P.base+p) (S.kn k p)
 chain:zm P S.op
def cZ(c:bg):Prop:=c.ap=2\/c.ap=3
def ub(P:bu)(S:gk):tZ->Prop
 | .begin k a=>k<P.ns.length/\P.base<=a/\a<=P.s.size/\(∀ f rest,S.op=f::rest->fX P f=(k,a))/\(S.kn k (a-P.base)).ap=0| .hand c=>∃ f rest,S.op=f::rest/\cZ c/\i' P (fX P f).2 c
def BU(P:bu):sL->Prop
 | .stop (.err e)=>e=1\/e=2| .stop (.ok c S)=>cZ c/\sM P S| .more q S=>sM P S/\ub P S q
def bu.E0{P:bu}(h:oh P){k:Nat}(af:k<P.ns.length):EZ P (P.at_ k):=by
 have:P.at_ k=P.ns[k]:=by simp[bu.at_,dT,af]
 rw[this];exact h.ns _ (dR af)
def Pq{P:bu}{kn:Nat->Nat->bg}(h:∀ k p,i' P (P.base+p) (kn k p)){k p:Nat}{c:bg}(aF:i' P (P.base+p) c):∀ cb fu,i' P (P.base+fu) (jO kn k p c cb fu):=by
 intro cb fu;unfold jO;cases ag:Nat.beq cb k&&Nat.beq fu p with
 |false=>exact h cb fu| true=>simp only[bG,Nat.beq_eq]at ag;obtain⟨rfl,rfl⟩:=ag;exact aF
def Pr{P:bu}(h:oh P){f:eJ}(aD:BT P f):(fX P f).1<P.ns.length/\P.base<=(fX P f).2/\(fX P f).2<=P.s.size/\f.pl<=(fX P f).2:=by
 have av:=bu.E0 h aD.a2;have aa:=aD.lo;have ab:=aD.pl;have ai:=aD.aB;have af:=aD.k;have get:∀ i,i<(P.at_ f.a2).asks.length->(P.at_ f.a2).asks.getD i 0<P.ns.length:=λi hi=>by
  have:(P.at_ f.a2).asks.getD i 0=(P.at_ f.a2).asks[i]:=by simp[dT,hi]
  rw[this];exact av.asks _ (dR hi)
 unfold fX;by_cases aQ:(P.at_ f.a2).d.k=4
 ·simp only[aQ,decide_true,aZ];exact⟨get _ (aD.many (.inl aQ)),by omega,ai,ab⟩
 ·by_cases bp:(P.at_ f.a2).d.k=5
  ·simp only[b4 aQ,e7 bp,aZ,aY];refine⟨get _ (aD.many (.inr bp)),by omega,by omega,by omega⟩
  ·simp only[b4 aQ,b4 bp,aY];have y8:(P.at_ f.a2).asks.length=1:=av.one (by omega);exact⟨get _ (by omega),by omega,ai,ab⟩
structure X0(P:bu)(S:gk)(f:eJ)(rest:List eJ):Prop where
 op:S.op=f::rest
 bK:∀ f∈rest,BT P f
 kn:∀ k p,i' P (P.base+p) (S.kn k p)
 chain:zm P (f::rest)
 lo:P.base<=f.pl
def Ps{P:bu}{S:gk}{f:eJ}{rest:List eJ}(h:X0 P S f rest){c:bg}(ak:cZ c)(m8:i' P f.pl c):BU P (xD P c S):=by
 have af:=Pq h.kn (k:=f.a2) (p:=f.pl-P.base) (c:=c) (by rw[su h.lo];exact m8);have m9:=h.chain;have iB:=h.bK;unfold xD;rw[h.op];cases rest with
 |nil=>exact⟨ak,⟨λf aD=>(by cases aD),af,trivial⟩⟩| cons r a3=>exact⟨⟨λgw tH=>iB gw tH,af,m9.2⟩,r,a3,rfl,ak,by rw[m9.1];exact m8⟩
def Pt{P:bu}(h:oh P){S:gk}(ea:sM P S){f:eJ}{rest:List eJ}(ji:S.op=f::rest):BU P (xE P S):=by
 have aD:=ea.op f (by rw[ji];exact .head _);obtain⟨fN,hP,vP,E1⟩:=Pr h aD;unfold xE;rw[ji];simp only;have m8:=ea.kn (fX P f).1 ((fX P f).2-P.base);rw[su hP]at m8;generalize aF:S.kn (fX P f).1 ((fX P f).2-P.base)=c at m8;cases au:Nat.beq c.ap 0 with
 |true=>
  rw[aZ];refine⟨ea,fN,hP,vP,λgw pP e=>?_,?_⟩;·rw[ji]at e;cases e;rfl
  ·rw[aF];exact bV au
 |false=>
  rw[aY];cases aa:Nat.beq c.ap 1 with
  |true=>rw[aZ];exact .inl rfl
  |false=>
   rw[aY];refine⟨ea,f,rest,ji,?_,m8⟩;have bT:c.ap≠0:=λe=>by rw[e]at au;cases au
   have ax:c.ap≠1:=λe=>by rw[e]at aa;cases aa
   have:=m8.ap;unfold cZ;omega
def sN{P:bu}{aB n:Nat}(aa:pl<=aB)(ab:aB<=P.s.size):cZ (og aB n)/\i' P pl (og aB n):=
 ⟨.inr rfl,bS 3,λ_=>⟨aa,ab,xn _ _⟩,λh=>absurd rfl h⟩
def E2{P:bu}:cZ il/\i' P pl il:=⟨.inl rfl,by decide,λh=>(by cases h),λ_=>⟨rfl,rfl⟩⟩
def X1{P:bu}{k a:Nat}(av:a<=P.s.size){c:bg}(h:sK P k a=some c):cZ c/\i' P a c:=by
 unfold sK at h;simp only at h;by_cases au:(P.at_ k).d.k=0
 ·simp only[e7 au,aZ,g7]at h;rw[<-h];exact sN (bS _) av
 by_cases aa:(P.at_ k).d.k=1
 ·simp only[b4 au,e7 aa,aZ,aY]at h;rcases Nat.lt_or_ge a P.s.data.size with aU | dE
  ·rw[Ar aU]at h;simp only at h;cases ag:lU (P.at_ k).d (P.s.data[a]).toNat with
   |true=>rw[ag]at h;simp only[aZ,g7]at h;rw[<-h];exact sN (Nat.le_succ _) aU| false=>rw[ag]at h;simp only[aY,g7]at h;rw[<-h];exact E2
  ·rw[Array.getElem?_eq_none dE]at h;simp only[g7]at h;rw[<-h];exact E2
 by_cases ab:(P.at_ k).d.k=2
 ·simp only[b4 au,b4 aa,e7 ab,aZ,aY]at h;cases ag:preB P.s (P.at_ k).d.t a with
  |true=>
   rw[ag]at h;simp only[aZ,g7]at h;rw[<-h];have:a+(P.at_ k).d.t.size<=P.s.size:=by unfold preB at ag;simp only[bG,eC]at ag;exact ag.1
   exact sN (Nat.le_add_right _ _) this
  |false=>rw[ag]at h;simp only[aY,g7]at h;rw[<-h];exact E2
 simp only[b4 au,b4 aa,b4 ab,aY]at h;cases ag:decide ((P.at_ k).d.k=6)&&decide ((P.at_ k).d.hi=0)with
 |true=>rw[ag]at h;simp only[aZ,g7]at h;rw[<-h];exact sN (bS _) av| false=>rw[ag]at h;cases h
def X2{P:bu}{k a:Nat}(h:sK P k a=none):(P.at_ k).d.k≠0/\(P.at_ k).d.k≠1/\(P.at_ k).d.k≠2/\((P.at_ k).d.k=6->(P.at_ k).d.hi≠0):=by
 unfold sK at h;simp only at h;by_cases au:(P.at_ k).d.k=0
 ·simp only[e7 au,aZ]at h;cases h
 by_cases aa:(P.at_ k).d.k=1
 ·simp only[b4 au,e7 aa,aZ,aY]at h;split at h
  ·rename_i b ag;cases a4:lU (P.at_ k).d b.toNat<;>rw[a4]at h<;>cases h
  ·cases h
 by_cases ab:(P.at_ k).d.k=2
 ·simp only[b4 au,b4 aa,e7 ab,aZ,aY]at h;cases a4:preB P.s (P.at_ k).d.t a<;>rw[a4]at h<;>cases h
 simp only[b4 au,b4 aa,b4 ab,aY]at h;refine⟨au,aa,ab,λbM a4=>?_⟩;simp only[e7 bM,e7 a4,Bool.and_self,aZ]at h;cases h
def X3{P:bu}{S:gk}(ea:sM P S){k a:Nat}(ag:ub P S (.begin k a)):∀ cb fu,i' P (P.base+fu) ((t' P k a S).kn cb fu):=by obtain⟨cU,b9,df,eb,hg⟩:=ag;refine Pq ea.kn ?_;have aF:=ea.kn k (a-P.base);obtain⟨qd,zn⟩:=aF.f (by rw[hg];decide);exact⟨bq rfl,(λh=>by cases h),λ_=>⟨qd,zn⟩⟩
def X4{P:bu}{S:gk}(ea:sM P S){k a:Nat}(ag:ub P S (.begin k a)):zm P (t' P k a S).op:=by
 obtain⟨cU,b9,df,eb,hg⟩:=ag;cases ji:S.op with
 |nil=>simp only[t',ji];trivial| cons r a3=>simp only[t',ji];refine⟨eb r a3 ji,?_⟩;have:=ea.chain;rwa [ji]at this
def X5{P:bu}(h:oh P){S:gk}(ea:sM P S){k a:Nat}(ag:ub P S (.begin k a)):BU P (zk P k a S):=by
 have gF:=ag;obtain⟨cU,b9,df,eb,hg⟩:=gF;have dK:=X3 ea ag;have m9:=X4 ea ag;unfold zk;cases aw:sK P k a with
 |some c=>obtain⟨d1,d2⟩:=X1 df aw;exact Ps (f:=⟨k,a,0,a,0⟩) (rest:=S.op) ⟨rfl,ea.op,dK,m9,b9⟩ d1 d2
 |none=>
  obtain⟨n0,fN,hP,E3⟩:=X2 aw;have av:=bu.E0 h cU;refine Pt h (f:=⟨k,a,0,a,0⟩) (rest:=S.op) ⟨λf aD=>?_,dK,m9⟩ rfl;rcases dv.1 aD with rfl | aD
  ·exact⟨cU,b9,bS _,df,bk _,by have:=av.k;show 3<=(P.at_ k).d.k;omega,λe=>av.many e,λe=>⟨E3 e,λ_=>bk _,λaA=>by
    have bc:(P.at_ k).d.k=6:=e;have dy:¬ (P.at_ k).d.hi=-1:=aA;have:=av.la bc;have:=E3 bc;show((0:Nat):Int)<(P.at_ k).d.hi;omega⟩,λ_=>⟨rfl,rfl⟩⟩
  ·exact ea.op f aD
structure Pu(P:bu)(f gw:eJ)(c':bg)(done:Bool):Prop where
 same:gw.a2=f.a2/\gw.pl=f.pl
 X6:done=true->cZ c'/\i' P f.pl c'
 on:done=false->BT P gw
def X7{P:bu}(h:oh P){f:eJ}(aD:BT P f){c:bg}(ak:cZ c)(aF:i' P (fX P f).2 c){gw:eJ}{c':bg}{done:Bool}(a4:vQ P f c=.on gw c' done):Pu P f gw c' done:=by
 have av:=bu.E0 h aD.a2;obtain⟨fN,hP,vP,E1⟩:=Pr h aD;have hle:i' P f.pl c:=⟨aF.ap,λe=>by
  have:=aF.m e;omega,aF.f⟩
 have ai:=aD.k;have ss:=aD.pl;have fD:=aD.aB;have aw:=aD.n;have dJ:=aD.lo;have on:∀ {x:eJ} {y:bg} {z:Bool},EX.on x y z=.on gw c' done->gw=x/\c'=y/\done=z:=λe=>by cases e;exact⟨rfl,rfl,rfl⟩
 have fin:∀ {x:eJ} {y:bg},x.a2=f.a2/\x.pl=f.pl->cZ y/\i' P f.pl y->Pu P f x y true:=λax aA=>⟨ax,λ_=>aA,λe=>by cases e⟩;unfold vQ at a4;simp only at a4;by_cases ra:(P.at_ f.a2).d.k<4
 ·simp only[e7 ra,aZ]at a4;obtain⟨rfl,rfl,rfl⟩:=on a4;exact fin ⟨rfl,rfl⟩ ⟨ak,hle⟩
 by_cases zo:(P.at_ f.a2).d.k=4
 ·have bj:decide ((P.at_ f.a2).d.k<4)=false:=b4 ra;have IU:(fX P f).2=f.aB:=by simp[fX,zo]
  rw[bj]at a4;simp only[e7 zo,aZ,aY]at a4;cases ab:Nat.beq c.ap 2 with
  |true=>rw[ab,aZ]at a4;obtain⟨rfl,rfl,rfl⟩:=on a4;exact fin ⟨rfl,rfl⟩ ⟨ak,hle⟩
  |false=>
   rw[ab,aY]at a4;obtain⟨rfl,rfl,rfl⟩:=on a4;have hm:c.ap=3:=by
    rcases ak with e | e;·rw[e]at ab;cases ab
    ·exact e
   obtain⟨cy,m2,xp⟩:=aF.m hm;rw[IU]at cy;refine⟨⟨rfl,rfl⟩,λ_=>sN (by omega) m2,λe=>⟨aD.a2,dJ,by show f.pl<=c.aB;omega,m2,xn _ _,ai,λ_=>?_,λgM=>?_,λax=>?_⟩⟩;·have:=aD.many (.inl zo);have:=dj e;show f.times+1<(P.at_ f.a2).asks.length;omega
   ·have X8:(P.at_ f.a2).d.k=6:=gM;omega
   ·have cL:(P.at_ f.a2).d.k=3\/7<=(P.at_ f.a2).d.k:=ax;omega
 by_cases E4:(P.at_ f.a2).d.k=5
 ·have bj:decide ((P.at_ f.a2).d.k<4)=false:=b4 ra;have cp:decide ((P.at_ f.a2).d.k=4)=false:=b4 zo;rw[bj,cp]at a4;simp only[e7 E4,aZ,aY]at a4;cases ab:Nat.beq c.ap 3 with
  |true=>rw[ab,aZ]at a4;obtain⟨rfl,rfl,rfl⟩:=on a4;exact fin ⟨rfl,rfl⟩ ⟨ak,hle⟩
  |false=>
   rw[ab,aY]at a4;obtain⟨rfl,rfl,rfl⟩:=on a4;refine⟨⟨rfl,rfl⟩,λ_=>⟨ak,hle⟩,λe=>⟨aD.a2,dJ,ss,fD,aw,ai,λ_=>?_,λgM=>?_,λax=>?_⟩⟩;·have:=aD.many (.inr E4);have:=dj e;show f.times+1<(P.at_ f.a2).asks.length;omega
   ·have X8:(P.at_ f.a2).d.k=6:=gM;omega
   ·have cL:(P.at_ f.a2).d.k=3\/7<=(P.at_ f.a2).d.k:=ax;omega
 by_cases E5:(P.at_ f.a2).d.k=6
 ·have bj:decide ((P.at_ f.a2).d.k<4)=false:=b4 ra;have cp:decide ((P.at_ f.a2).d.k=4)=false:=b4 zo;have eX:decide ((P.at_ f.a2).d.k=5)=false:=b4 E4;have IU:(fX P f).2=f.aB:=by simp[fX,E5]
  rw[bj,cp,eX]at a4;simp only[e7 E5,aZ,aY]at a4;cases ab:Nat.beq c.ap 2 with
  |true=>
   rw[ab,aZ]at a4;cases aQ:decide ((f.times:Int)<(P.at_ f.a2).d.lo)with
   |true=>rw[aQ,aZ]at a4;obtain⟨rfl,rfl,rfl⟩:=on a4;exact fin ⟨rfl,rfl⟩ ⟨ak,hle⟩
   |false=>rw[aQ,aY]at a4;obtain⟨rfl,rfl,rfl⟩:=on a4;exact fin ⟨rfl,rfl⟩ (sN ss fD)
  |false=>
   rw[ab,aY]at a4;have hm:c.ap=3:=by
    rcases ak with e | e;·rw[e]at ab;cases ab
    ·exact e
   obtain⟨cy,m2,xp⟩:=aF.m hm;rw[IU]at cy;cases aQ:decide ((P.at_ f.a2).d.hi=-1)&&decide (c.aB=f.aB)with
   |true=>rw[aQ,aZ]at a4;cases a4
   |false=>
    rw[aQ,aY]at a4;obtain⟨rfl,rfl,rfl⟩:=on a4;obtain⟨lV,gx,im⟩:=aD.la E5;refine⟨⟨rfl,rfl⟩,λ_=>sN (by omega) m2,λe=>⟨aD.a2,dJ,by show f.pl<=c.aB;omega,m2,xn _ _,ai,λax=>?_,λ_=>⟨lV,λax=>?_,λax=>?_⟩,λax=>?_⟩⟩;·have cL:(P.at_ f.a2).d.k=4\/(P.at_ f.a2).d.k=5:=ax;omega
    ·have cL:(P.at_ f.a2).d.hi=-1:=ax;have:=gx cL;have bl:¬ c.aB=f.aB:=λaA=>by simp[cL,aA]at aQ
     show f.times+1<=c.aB-f.pl;omega
    ·have cL:(P.at_ f.a2).d.hi≠-1:=ax;have:=im cL;have:=dj e;show((f.times+1:Nat):Int)<(P.at_ f.a2).d.hi;omega
    ·have cL:(P.at_ f.a2).d.k=3\/7<=(P.at_ f.a2).d.k:=ax;omega
 have bj:decide ((P.at_ f.a2).d.k<4)=false:=b4 ra;have cp:decide ((P.at_ f.a2).d.k=4)=false:=b4 zo;have eX:decide ((P.at_ f.a2).d.k=5)=false:=b4 E4;have gM:decide ((P.at_ f.a2).d.k=6)=false:=b4 E5;rw[bj,cp,eX,gM]at a4;simp only[aY]at a4;have E6:f.pl<=P.s.size:=by omega
 cases dP:decide ((P.at_ f.a2).d.k=7)with
 |true=>
  rw[dP,aZ]at a4;cases ab:Nat.beq c.ap 3<;>rw[ab]at a4<;>simp only[aZ,aY]at a4<;>obtain⟨rfl,rfl,rfl⟩:=on a4
  ·exact fin ⟨rfl,rfl⟩ ⟨ak,hle⟩
  ·exact fin ⟨rfl,rfl⟩ (sN (bS _) E6)
 |false=>
  rw[dP,aY]at a4;cases eK:decide ((P.at_ f.a2).d.k=8)with
  |true=>
   rw[eK,aZ]at a4;cases ab:Nat.beq c.ap 2<;>rw[ab]at a4<;>simp only[aZ,aY]at a4<;>obtain⟨rfl,rfl,rfl⟩:=on a4
   ·exact fin ⟨rfl,rfl⟩ E2
   ·exact fin ⟨rfl,rfl⟩ (sN (bS _) E6)
  |false=>
   rw[eK,aY]at a4;cases ab:Nat.beq c.ap 3<;>rw[ab]at a4<;>simp only[aZ,aY]at a4<;>obtain⟨rfl,rfl,rfl⟩:=on a4
   ·exact fin ⟨rfl,rfl⟩ ⟨ak,hle⟩
   ·have hm:=hle.m (bV ab);exact fin ⟨rfl,rfl⟩ (sN hm.1 hm.2.1)
def Pv{P:bu}{f gw:eJ}{rest:List eJ}(h:zm P (f::rest))(aq:gw.a2=f.a2/\gw.pl=f.pl):zm P (gw::rest):=by
 cases rest with
 |nil=>trivial| cons r a3=>refine⟨?_,h.2⟩;rw[aq.1,aq.2];exact h.1
def X9{P:bu}(h:oh P){S:gk}(ea:sM P S){c:bg}(aK:ub P S (.hand c)):BU P (zl P c S):=by
 obtain⟨f,rest,ji,ak,aF⟩:=aK;have aD:=ea.op f (by rw[ji];exact .head _);have m9:=ea.chain;rw[ji]at m9;unfold zl;rw[ji];simp only;cases a4:vQ P f c with
 |loop=>exact .inr rfl
 |on gw c' done=>
  have af:=X7 h aD ak aF a4;have dJ:=aD.lo;cases done with
  |true=>obtain⟨dH,di⟩:=af.X6 rfl;exact Ps (S:=⟨S.kn,gw::rest,S.used+1⟩) (f:=gw) (rest:=rest) ⟨rfl,λx ae=>ea.op x (by rw[ji];exact .tail _ ae),ea.kn,Pv m9 af.same,by rw[af.same.2];exact dJ⟩ dH (by rw[af.same.2];exact di)
  |false=>
   refine Pt h (S:=⟨S.kn,gw::rest,S.used+1⟩) (f:=gw) (rest:=rest) ⟨λx ae=>?_,ea.kn,Pv m9 af.same⟩ rfl;rcases dv.1 ae with rfl | ae;·exact af.on rfl
   ·exact ea.op x (by rw[ji];exact .tail _ ae)
def X'{P:bu}(h:oh P){S:gk}(ea:sM P S){q:tZ}(aK:ub P S q):BU P (BS P q S):=by
 cases q with
 |begin k a=>exact X5 h ea aK| hand c=>exact X9 h ea aK
def iq(kn:Nat->Nat->bg)(base:Nat):List Nat->Nat->List (Nat×Nat)
 |[],_=>[]| k::L,a=>bif Nat.beq (kn k (a-base)).ap 3 then(bif Nat.beq (kn k (a-base)).n 0 then iq kn base L (kn k (a-base)).aB else(k,a)::iq kn base L (kn k (a-base)).aB)else iq kn base L a
def nb(kn:Nat->Nat->bg)(base:Nat):List Nat->Nat->Nat
 |[],a=>a| k::L,a=>bif Nat.beq (kn k (a-base)).ap 3 then nb kn base L (kn k (a-base)).aB else nb kn base L a
def kk(kn:Nat->Nat->bg)(base:Nat):List Nat->Nat->Nat
 |[],_=>0| k::L,a=>bif Nat.beq (kn k (a-base)).ap 3 then(kn k (a-base)).n+kk kn base L (kn k (a-base)).aB else kk kn base L a
def allM(kn:Nat->Nat->bg)(base:Nat):List Nat->Nat->Prop
 |[],_=>True| k::L,a=>(kn k (a-base)).ap=3/\allM kn base L (kn k (a-base)).aB
def jo(kn:Nat->Nat->bg)(base:Nat):List Nat->Nat->List (Nat×Nat)
 |[],_=>[]| k::L,a=>bif Nat.beq (kn k (a-base)).ap 3 then(bif Nat.beq (kn k (a-base)).n 0 then []else [(k,a)])else jo kn base L a
def o9(kn:Nat->Nat->bg)(base:Nat):List Nat->Nat->Prop
 |[],_=>False| k::L,a=>(kn k (a-base)).ap=3\/((kn k (a-base)).ap=2/\o9 kn base L a)
inductive hy(kn:Nat->Nat->bg)(base:Nat)(k:Nat)(hi:Int):Nat->Nat->List (Nat×Nat)->Prop
 |stop{t a:Nat}(h:(t:Int)=hi):hy kn base k hi t a []| fail {t a:Nat} (h:(t:Int)≠hi) (ab:(kn k (a-base)).ap=2):hy kn base k hi t a []| more {t a:Nat} {l:List (Nat×Nat)} (ag:t<=1000000) (h:(t:Int)≠hi) (ab:(kn k (a-base)).ap=3) (r:hy kn base k hi (t+1) (kn k (a-base)).aB l):hy kn base k hi t a ((bif Nat.beq (kn k (a-base)).n 0 then []else [(k,a)])++l)
def hz(P:bu)(kn:Nat->Nat->bg)(k a:Nat)(l:List (Nat×Nat)):Prop:=
 if(P.at_ k).d.k=6 then hy kn P.base ((P.at_ k).asks.getD 0 0) (P.at_ k).d.hi 0 a l
 else if(P.at_ k).d.k=5 then o9 kn P.base (P.at_ k).asks a/\l=jo kn P.base (P.at_ k).asks a else allM kn P.base (P.at_ k).asks a/\l=iq kn P.base (P.at_ k).asks a
structure bN where
 name:ByteArray
 lo:Nat
 hi:Nat
def lW(P:bu)(kn:Nat->Nat->bg)(k a:Nat):List bN:=bif decide ((P.at_ k).d.k=9)then [⟨(P.at_ k).d.t,a,(kn k (a-P.base)).aB⟩]else []
inductive eY(P:bu)(kn:Nat->Nat->bg):Nat->List (Nat×Nat)->List bN->Prop
 |nil:eY P kn 0 [] []| zero {n k a rest l} (ai:(kn k (a-P.base)).ap=3) (h:(kn k (a-P.base)).n=0) (r:eY P kn n rest l):eY P kn (n+1) ((k,a)::rest) l| node {n k a parts rest l} (ai:(kn k (a-P.base)).ap=3) (h:(kn k (a-P.base)).n≠0) (aH:hz P kn k a parts) (r:eY P kn n (parts++rest) l):eY P kn (n+1) ((k,a)::rest) (lW P kn k a++l)
def eY.app{P:bu}{kn:Nat->Nat->bg}{n m:Nat}{a b:List (Nat×Nat)}{l cd:List bN}(h:eY P kn n a l)(bf:eY P kn m b cd):eY P kn (n+m) (a++b) (l++cd):=by
 induction h with
 |nil=>rw[dG];exact bf| @zero n k a rest l ai h r a8=>rw[zd];exact .zero ai h a8| @node n k a parts rest l ai h aH r a8=>rw[zd,fJ];rw[fJ]at a8;exact .node ai h aH a8
def jq(l:List bN)(n:Nat):Prop:=(n<=65536->l.length=n)/\(65537<=n->65537<=l.length)
def jq.app{l cd:List bN}{n m:Nat}(h:jq l n)(bf:jq cd m):jq (l++cd) (n+m):=by unfold jq at *;rw[cD];omega
def jq.cut{l:List bN}{n:Nat}(h:jq l n):jq l (min n 65537):=by unfold jq at *;omega
def uc(kn fE:Nat->Nat->bg):Prop:=∀ k p,cZ (kn k p)->fE k p=kn k p
def IV{kn fE:Nat->Nat->bg}(h:uc kn fE)(base:Nat):∀ (L:List Nat) (a:Nat),allM kn base L a->iq fE base L a=iq kn base L a/\nb fE base L a=nb kn base L a/\kk fE base L a=kk kn base L a/\allM fE base L a
 |[],a,_=>⟨rfl,rfl,rfl,trivial⟩
 |k::L,a,⟨aa,ab⟩=>by
  have e:=h k (a-base) (.inr aa);obtain⟨i1,i2,i3,i4⟩:=IV h base L _ ab;have ag:Nat.beq (kn k (a-base)).ap 3=true:=by rw[aa];rfl
  simp only[iq,nb,kk,allM,e,i1,i2,i3,ag,aZ];exact⟨trivial,trivial,trivial,aa,i4⟩
def Pw{kn fE:Nat->Nat->bg}(h:uc kn fE)(base:Nat):∀ (L:List Nat) (a:Nat),o9 kn base L a->jo fE base L a=jo kn base L a/\o9 fE base L a
 |[],a,aa=>aa.elim| k::L,a,.inl aa=>by have e:=h k (a-base) (.inr aa);simp only[jo,o9,e,aa];exact⟨rfl,.inl trivial⟩
 |k::L,a,.inr ⟨aa,ab⟩=>by have e:=h k (a-base) (.inl aa);obtain⟨i1,i2⟩:=Pw h base L a ab;simp only[jo,o9,e,aa,i1];exact⟨trivial,.inr ⟨trivial,i2⟩⟩
def hy.le{kn fE:Nat->Nat->bg}(h:uc kn fE){k:Nat}{t a:Nat}{l:List (Nat×Nat)}(hw:hy kn base k hi t a l):hy fE base k hi t a l:=by
 induction hw with
 |stop aa=>exact .stop aa| fail aa ab=>exact .fail aa (by rw[h _ _ (.inl ab)];exact ab)| @more t a l ag aa ab r a8=>have e:=h k (a-base) (.inr ab);have:=hy.more (kn:=fE) (base:=base) (k:=k) (hi:=hi) (t:=t) (a:=a) (l:=l) ag aa (by rw[e];exact ab) (by rw[e];exact a8);rwa [e]at this
def hz.le{P:bu}{kn fE:Nat->Nat->bg}(h:uc kn fE){k a:Nat}{l:List (Nat×Nat)}(aH:hz P kn k a l):hz P fE k a l:=by
 unfold hz at aH |-;by_cases bM:(P.at_ k).d.k=6
 ·rw[cv bM]at aH |-;exact aH.le h
 ·rw[b7 bM]at aH |-;by_cases bp:(P.at_ k).d.k=5
  ·rw[cv bp]at aH |-;obtain⟨i1,i2⟩:=Pw h P.base _ _ aH.1;exact⟨i2,by rw[i1];exact aH.2⟩
  ·rw[b7 bp]at aH |-;obtain⟨i1,i2,i3,i4⟩:=IV h P.base _ _ aH.1;exact⟨i4,by rw[i1];exact aH.2⟩
def eY.le{P:bu}{kn fE:Nat->Nat->bg}(h:uc kn fE){n:Nat}{L:List (Nat×Nat)}{l:List bN}(aG:eY P kn n L l):eY P fE n L l:=by
 induction aG with
 |nil=>exact .nil| @zero n k a rest l ai au r a8=>have e:=h k (a-P.base) (.inr ai);exact .zero (by rw[e];exact ai) (by rw[e];exact au) a8
 | @node n k a parts rest l ai au aH r a8=>
  have e:=h k (a-P.base) (.inr ai);have aF:lW P kn k a=lW P fE k a:=by unfold lW;rw[e]
  rw[aF];exact .node (by rw[e];exact ai) (by rw[e];exact au) (aH.le h) a8
inductive g1:Nat->Nat->List bN->Prop
 |nil{a b}(h:a<=b):g1 a b []| app {a b c l cd} (h:g1 a b l) (bf:g1 b c cd):g1 a c (l++cd)| cap {a b l dc} (h:g1 a b l):g1 a b (⟨dc,a,b⟩::l)
def g1.le{a b:Nat}{l:List bN}(h:g1 a b l):a<=b:=by
 induction h with
 |nil h=>exact h| app _ _ aa ab=>exact jy aa ab| cap _ h=>exact h
structure IW(P:bu)(kn:Nat->Nat->bg)(f:eJ):Prop where
 w:(kn f.a2 (f.pl-P.base)).ap=1
 many:(P.at_ f.a2).d.k=4\/(P.at_ f.a2).d.k=6->∀ L,L=(if(P.at_ f.a2).d.k=4 then(P.at_ f.a2).asks.take f.times else List.replicate f.times ((P.at_ f.a2).asks.getD 0 0)) -> allM kn P.base L f.pl/\f.aB=nb kn P.base L f.pl/\f.n=min (kk kn P.base L f.pl) 65537
 rV:(P.at_ f.a2).d.k=5->∀ i,i<f.times->(kn ((P.at_ f.a2).asks.getD i 0) (f.pl-P.base)).ap=2
def rb(P:bu)(kn:Nat->Nat->bg):Prop:=∀ k p,(kn k p).ap=3->∃ n l,eY P kn n [(k,P.base+p)] l/\jq l (kn k p).n/\g1 (P.base+p) (kn k p).aB l
def Ya(kn:Nat->Nat->bg)(k p:Nat)(c:bg):jO kn k p c k p=c:=by simp[jO]
def Px{kn:Nat->Nat->bg}{k p cb fu:Nat}{c:bg}(h:¬ (cb=k/\fu=p)):jO kn k p c cb fu=kn cb fu:=by
 unfold jO;have:(Nat.beq cb k&&Nat.beq fu p)=false:=by rw[sv];intro e;simp only[bG,Nat.beq_eq]at e;exact h e
 rw[this];rfl
def Yb{kn:Nat->Nat->bg}{k p:Nat}{c:bg}(h:¬ cZ (kn k p)):uc kn (jO kn k p c):=λcb fu ak=>by refine Px λe=>?_;rw[e.1,e.2]at ak;exact h ak
def rb.set{P:bu}{kn:Nat->Nat->bg}(h:rb P kn){k p:Nat}{c:bg}(aw:¬ cZ (kn k p))(aF:c.ap=3->∃ n l,eY P (jO kn k p c) n [(k,P.base+p)] l/\jq l c.n/\g1 (P.base+p) c.aB l):rb P (jO kn k p c):=λcb fu ai=>by
 by_cases e:cb=k/\fu=p
 ·obtain⟨rfl,rfl⟩:=e;rw[Ya]at ai |-;exact aF ai
 ·rw[Px e]at ai |-;obtain⟨n,l,aa,ab⟩:=h cb fu ai;exact⟨n,l,aa.le (Yb aw),ab⟩
def IW.le{P:bu}{kn fE:Nat->Nat->bg}(h:uc kn fE){f:eJ}(aq:IW P kn f)(hw:(fE f.a2 (f.pl-P.base)).ap=1):IW P fE f:=by
 refine⟨hw,λaf L cI=>?_,λaf i hi=>?_⟩
 ·obtain⟨aa,ab,ai⟩:=aq.many af L cI;obtain⟨i1,i2,i3,i4⟩:=IV h P.base _ _ aa;exact⟨i4,by rw[i2];exact ab,by rw[i3];exact ai⟩
 ·have:=aq.rV af i hi;rw[h _ _ (.inl this)];exact this
def Py{P:bu}{kn:Nat->Nat->bg}(af:∀ k p,i' P (P.base+p) (kn k p))(aG:rb P kn):∀ (L:List Nat) (a:Nat),P.base<=a->allM kn P.base L a->∃ n l,eY P kn n (iq kn P.base L a) l/\jq l (kk kn P.base L a)/\g1 a (nb kn P.base L a) l
 |[],a,_,_=>⟨0,[],.nil,⟨λ_=>rfl,λh=>by simp[kk]at h⟩,.nil (bS _)⟩
 |k::L,a,av,⟨aa,ab⟩=>by
  have aF:=af k (a-P.base);have fD:=(aF.m aa).1;obtain⟨n,l,i1,i2,i3⟩:=Py af aG L _ (by omega) ab;obtain⟨m,cd,hA,fh,ir⟩:=aG k (a-P.base) aa;rw[su av]at hA ir;simp only[iq,kk,nb,aa];rw[show Nat.beq 3 3=true from rfl,aZ,aZ,aZ];cases au:Nat.beq (kn k (a-P.base)).n 0 with
  |true=>rw[aZ,bV au,dG];exact⟨n,l,i1,i2,.app (.nil (by rw[su av]at fD;exact fD)) i3⟩| false=>rw[aY];exact⟨m+n,cd++l,hA.app i1,fh.app i2,.app ir i3⟩
def Yc:Nat->Int
 |0=>44| 1=>42| 2=>43| _=>0
def Pz(dc:ByteArray):∀ (ds:List bP) (i:Nat),dz dc ds i=bif decide (dz dc ds 0<0)then -1 else dz dc ds 0+i
 |[],i=>rfl
 |d::ds,i=>by
  unfold dz;cases h:decide (d.name=dc)with
  |true=>
   have:decide ((((0:Nat):Int))<0)=false:=by decide
   simp[this]
  |false=>
   rw[aY,aY,Pz dc ds (i+1),Pz dc ds (0+1)];have ao:dz dc ds 0<0\/0<=dz dc ds 0:=by omega
   rcases ao with ao | ao;·rw[e7 ao];rfl
   ·have e:decide (dz dc ds 0<0)=false:=b4 (by omega);rw[e,aY,aY];have aA:decide (dz dc ds 0+((0+1:Nat):Int)<0)=false:=b4 (by omega);rw[aA,aY];omega
def PA(dc:ByteArray)(aq bU:List bP):dz dc (aq++bU) 0=bif decide (dz dc aq 0<0)then dz dc bU aq.length else dz dc aq 0:=by
 have key:∀ (aq:List bP) (i:Nat),dz dc (aq++bU) i=bif decide (dz dc aq i<0)then dz dc bU (i+aq.length)else dz dc aq i:=by
  intro aq
  induction aq with
  |nil=>intro i;simp[dz]
  |cons d aq a8=>
   intro i;rw[sb,dz,dz];cases decide (d.name=dc)with
   |true=>have:decide ((i:Int)<0)=false:=b4 (by omega);rw[aZ,aZ,this,aY]| false=>rw[aY,aY,a8 (i+1),du];rw[show i+1+aq.length=i+(aq.length+1)from by omega]
 have:=key aq 0;rwa [dG]at this
structure zp(aq:List bP)(acc:List (ByteArray×Int)):Prop where
 look:∀ dc,(hT dc acc).isSome=decide (0<=dz dc aq 0)
def PB(dc:ByteArray)(p:ByteArray×Int):∀ acc:List (ByteArray×Int),(hT dc (acc++[p])).isSome=((hT dc acc).isSome||decide (dc=p.1))
 |[]=>by
  show(bif decide (dc=p.1)then some p.2 else none:Option Int).isSome=_;cases decide (dc=p.1)<;>rfl
 |q::acc=>by
  rw[sb,hT,hT];cases decide (dc=q.1)with
  |true=>rfl| false=>rw[aY,aY,PB dc p acc]
def zp.snoc{aq:List bP}{acc:List (ByteArray×Int)}(h:zp aq acc)(d:bP)(v:Int):zp (aq++[d]) (acc++[(d.name,v)]):=by
 refine⟨λdc=>?_⟩;rw[PB,h.look,PA];by_cases ao:dz dc aq 0<0
 ·rw[e7 ao,aZ,b4 (by omega:¬ 0<=dz dc aq 0),uZ];unfold dz;have:decide (d.name=dc)=decide (dc=d.name):=decide_eq_decide.2 ⟨Eq.symm,Eq.symm⟩;rw[this];cases decide (dc=d.name)with
  |true=>simp| false=>rw[aY];rfl
 ·rw[b4 ao,aY,e7 (by omega:0<=dz dc aq 0),Bool.true_or]
def sO(ds:List bP)(i:Nat):Bool:=match ds[i]? with
 |some d=>decide (dz d.name ds 0=i)| none=>true
def Yd(d:bP)(bU:List bP)(i:Nat):dz d.name (d::bU) i=i:=by rw[dz,e7 rfl];rfl
def Ye(bU:List bP):∀ (aq:List bP) (acc:List (ByteArray×Int)),zp aq acc->(∀ i,i<aq.length->sO (aq++bU) i=true) ->
  match p' acc aq.length bU with
  |none=>∃ i,i<(aq++bU).length/\sO (aq++bU) i=false/\∀ k,k<i->sO (aq++bU) k=true| some r=>zp (aq++bU) r/\∀ i,i<(aq++bU).length->sO (aq++bU) i=true:=by
 induction bU with
 |nil=>intro aq acc h aD;rw[en]at *;exact⟨h,aD⟩
 |cons d bU a8=>
  intro aq acc h aD;have p6:(aq++d::bU)[aq.length]?=some d:=by simp
  have mb:sO (aq++d::bU) aq.length=!(hT d.name acc).isSome:=by
   unfold sO;rw[p6,h.look];simp only;rw[PA];by_cases ao:dz d.name aq 0<0;·rw[e7 ao,aZ,Yd];simp;omega
   ·rw[b4 ao,aY];have aU:dz d.name aq 0<aq.length:=by
     have:∀ (aq:List bP) (i:Nat),0<=dz d.name aq i->dz d.name aq i<i+aq.length:=by
      intro aq
      induction aq with
      |nil=>intro i h;simp[dz]at h
      |cons e aq Yf=>
       intro i h;unfold dz at h |-;cases aF:decide (e.name=d.name)with
       |true=>simp;omega| false=>rw[aF,aY]at h;rw[aY];have:=Yf (i+1) h;simp;omega
     have:=this aq 0 (by omega);omega
    have ax:decide (dz d.name aq 0=(aq.length:Int))=false:=b4 (by omega);have aA:decide (0<=dz d.name aq 0)=true:=e7 (by omega);rw[ax,aA];rfl
  rw[p'];cases ay:(hT d.name acc).isSome with
  |true=>rw[ay]at mb;exact⟨aq.length,by simp,mb,aD⟩
  |false=>
   rw[ay]at mb;have:=a8 (aq++[d]) (acc++[(d.name,(aq.length:Int))]) (h.snoc d _) (λi hi=>by
    rw[fJ];simp at hi;rcases Nat.lt_or_eq_of_le (Nat.lt_succ_iff.1 (by omega:i<aq.length+1))with aa | aa;·exact aD i aa
    ·rw[aa];exact mb)
   rw[cD,fJ]at this;exact this
def Yg:zp [] []:=⟨λdc=>by simp[hT,dz]⟩
def BV(ds:List bP)(n:a1):Bool:=!decide (n.k=3)||decide (0<=dz n.t ds 0)
def PC(p:a1->Bool):∀ (ds:List bP) (i:Nat),((sE i ds).all λx=>p x.2)=ds.all λd=>d.t.ns.all p
 |[],i=>rfl| d::ds,i=>by rw[sE,By,List.all_cons,PC p ds (i+1),List.all_map];rfl
def IX(deb:List Int)(g:c1):Int:=
 bif decide ((g.n:Int)=0)then 4 else bif !xx g.ds then 4 else bif tU deb g then 40 else
 bif !(List.range g.ds.length).all (sO g.ds)then 6 else bif g.ds.all λd=>d.t.ns.all (BV g.ds)then 0 else 41
def Yh(deb:List Int)(g:c1):IX deb g=jN deb g:=by
 unfold IX jN;have h:=Ye g.ds [] [] Yg (λi hi=>by simp at hi);simp only[iF,nW]at h;cases ak:p' [] 0 g.ds with
 |none=>
  rw[ak]at h;obtain⟨i,aa,ab,_⟩:=h;have:(List.range g.ds.length).all (sO g.ds)=false:=by rw[sv];intro gg;rw[gR]at gg;have:=gg i (l9.2 aa);rw[ab]at this;cases this
  rw[this];rfl
 |some acc=>
  rw[ak]at h;obtain⟨aa,ab⟩:=h;have ai:(List.range g.ds.length).all (sO g.ds)=true:=by rw[gR];intro i hi;exact ab i (l9.1 hi)
  rw[ai];have aQ:(g.ds.all λd=>d.t.ns.all (BV g.ds))=vN acc g.ds:=by unfold vN;rw[PC];congr 1;funext d;congr 1;funext n;unfold vM BV;rw[aa.look]
  rw[aQ];rfl
def IY:fB 0:=⟨by decide,by decide⟩
def i0:k8 0:=⟨by decide,by decide⟩
def E7(k:Int)(s:ByteArray):a1:=⟨k,0,0,0,0,s,0,0,none,0,0,[]⟩
def E8(d:a1):Bool:=decide (d.t=⟨#[]⟩)&&(decide (d.lo=0)&&decide (d.hi=0))
def Yi(d:a1)(n:Int):Bool:=
 bif decide (d.k=0)then E8 d&&decide (n=0)else
 bif decide (d.k=1)then E8 d&&decide (n=0)else
 bif decide (d.k=2)then decide (d.lo=0)&&(decide (d.hi=0)&&(decide (n=0)&&(decide ((1:Int)<=d.t.size)&&decide ((d.t.size:Int)<=255))))else
 bif decide (d.k=3)then decide (d.lo=0)&&(decide (d.hi=0)&&(decide (n=0)&&iH d.t))else
 bif decide (d.k=4)||decide (d.k=5)then E8 d&&decide (2<=n)else
 bif decide (d.k=6)then decide (d.t=⟨#[]⟩)&&(decide (n=1)&&(decide (0<=d.lo)&&(decide (d.lo<=99)&&(decide (d.hi=-1)||(decide (d.lo<=d.hi)&&decide (d.hi<=99))))))else
 bif decide (d.k=7)||decide (d.k=8)then E8 d&&decide (n=1)else
 bif decide (d.k=9)then decide (d.lo=0)&&(decide (d.hi=0)&&(decide (n=1)&&iH d.t))else false
def PD{root:Int}:∀ {s:List Bool} {i j:Nat},j<s.length->(s.getD j false == decide (((i+j:Nat):Int)=root))=true->n1 root i s=false
 |b::s,i,0,_,h=>by unfold n1;rw[show(b == decide ((i:Int)=root))=true by simpa using h];rfl
 |b::s,i,j+1,ar,h=>by
  unfold n1;cases b == decide ((i:Int)=root)with
  |true=>rfl| false=>simp only[aY];refine PD (j:=j) (by simpa using ar) ?_;rw[show i+1+j=i+(j+1) by omega];simpa using h
def PE{root:Int}:∀ {s:List Bool} {i:Nat},(∀ j,j<s.length->(s.getD j false == decide (((i+j:Nat):Int)=root))=false)->n1 root i s=true
 |[],i,h=>rfl| b::s,i,h=>by unfold n1;have au:=h 0 (by simp);rw[show(b == decide ((i:Int)=root))=false by simpa using au];simp only[aY];refine PE λj ar=>?_;have:=h (j+1) (by simpa using ar);rw[show i+1+j=i+(j+1) by omega];simpa using this
structure BW(I:aN)(a:Option Addr)(c:Nat)(k:Int)(s:ByteArray):Prop where
 a3:dt I a 1 c 9 96 (E7 k s).cells
def BW.mono{a:Option Addr}{c:Nat}{k:Int}{s:ByteArray}(h:BW I a c k s)(a':∀ b o,I b=some o->I' b=some o):BW I' a c k s:=⟨h.a3.mono a'⟩
def BW.rd{a:Option Addr}{c:Nat}{k:Int}{s:ByteArray}(h:BW I a c k s):∃ ad,a=some ad/\∀ M,ck I M (ad.add (0*9)) 9 (E7 k s).cells:=by have:=dt.row (f:=a1.cells) (l:=[E7 k s]) a1.cV (size:=9) (j:=0) (by simpa using h.a3) (by decide) (bS 1);simpa using this
def be.a2{o:Oper}{K:eF}(h:be X o F C I M (λF C I M=>(M.map (·.num)).Nodup->(∀ x∈M,I x.num=none)->K F C I M)):be X o F C I M K:=
 ⟨λa w Q aX=>pz (λbw w'=>λ⟨de,C',I',M',⟨β,ao⟩,af⟩=>⟨de,C',I',M',⟨β,ao⟩,af ao.holds.a2 ao.holds.d⟩) (h.1 a w Q aX)⟩
abbrev vR:=db×Int×ByteArray
def vR.a2(x:vR):a1:=E7 x.2.1 x.2.2
structure vR.ok(I:aN)(x:vR):Prop where
 t:x.1.ok I
 ns:x.1.ns=[x.a2]
 root:x.1.root=0
 fits:Yi x.a2 0=true
def vR.ok.mono{x:vR}(h:vR.ok I x)(a':∀ b o,I b=some o->I' b=some o):vR.ok I' x:=⟨h.t.mono a',h.ns,h.root,h.fits⟩
end Go.V
