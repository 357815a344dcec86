/- Part 3 of what the proofs of this seat share: the executor, data in memory, walks.
-/
import Derived.Test.YtjaibbcbjfapaaaGreatDoorK2
import Derived.WideMake
import Derived.ChangeSame
import Derived.ChangeArms
import Derived.OpenShut
import Derived.Deep.DeepHandedRow
import Derived.Lib.LaidTab
import Derived.Test.YtjaibbcbjfapaaaGreatDoorRows
import Derived.Test.YtjaibbcbjfapaaaGreatDoorCards
import Derived.Test.YtjaibbcbjfapaaaGreatDoorTie
import Derived.WalkKit
import Derived.ProofKit
import Derived.WideKeyArgs
import Derived.Below
import Derived.JoinedOf
set_option linter.all false
set_option maxHeartbeats 40000000
set_option maxRecDepth 100000
namespace Go.V
open Go Go.Proofs
def db:=@of_decide_eq_false
def dh:=@Nat.zero_le
def eX:=@Option.some.inj
def fb:=@decide_eq_false
def hL:=@List.getElem_of_mem
def jJ:=@List.getElem?_map
def gE:=@List.map_map
def hM:=@decide_eq_true
def sD:=@List.mem_or_eq_of_mem_set
def wE:=@List.getElem_append_left
def pW:=@List.sum_append
def uW:=@List.mem_of_mem_take
def zU:=@List.reverse_singleton
def wF:=@List.cons.injEq
def B0:=@Int.ofNat_eq_natCast
def Ef:=@MapKept.run_getObj_map
def Hd:=@List.eq_of_mem_replicate
def Eg:=@MapKept.run_checkKey
def Eh:=@MapKept.run_findKey
def x5:=@List.sum_nil
def Ei:=@decide_eq_decide
def KR:=@ByteArray.size_append
def Pt:=@List.perm_append_singleton
def He:=@List.all_append
def Pu:=@Option.bind_eq_some_iff
def Pv:=@MapKept.run_setObj_map
def KS:=@List.all_eq_false
def Pw:=@Bool.and_eq_false_iff
def KT:=@List.flatMap_nil
def KU:=@beq_self_eq_true
def KV:=@List.drop_length
def Px:=@List.flatten_cons
def Py:=@DataW.trod_array
def Hf:=@Nat.mod_lt
variable{P aB:List Int}{t:bf}{x y:Operand}{a:Option Addr}{other:Prop}{I:aI}{i j g c e size sz fK da:Nat}{w:Bool}{F:Fr}{C:dB}{M:List aD}{vs xs aR cs:List Value}{α:Type}{X:c3}{dd tB:dV}{l:List (ByteArray×Int)}{v:Value}{os:aO}{W km:World}{dv:Array Field}{rows:List (List Value)}{p:List MemPlace}
structure KW(d:ak):Prop where
 k:d.k<10
 t:d.t.size<=255
 Hg:d.k=6->0<=d.lo/\d.lo<=99/\(d.hi=-1\/(d.lo<=d.hi/\d.hi<=99))
def Pz{d:ak}{n:Int}(h:fits d n=true):KW d:=by
 unfold fits at h;cases aa:decide (10<=d.k)with
 |true=>rw[aa]at h;cases h
 |false=>
  rw[aa]at h;simp only[cw]at h;have af:d.k<10:=by simpa using aa
  cases ab:(decide (n<oe d.k.toNat)||(decide (0<=nc d.k.toNat)&&decide (nc d.k.toNat<n)))with
  |true=>rw[ab]at h;cases h
  |false=>
   rw[ab]at h;simp only[cw]at h;have dC:d.t=⟨#[]⟩->d.t.size<=255:=λe=>by rw[e];decide
   cases al:decide (d.k=1)with
   |true=>rw[al]at h;simp only[cD,cH,gN]at h;exact⟨af,dC h.1,λe=>by simp at al;omega⟩
   |false=>
    rw[al]at h;simp only[cw]at h;cases aL:decide (d.k=2)with
    |true=>rw[aL]at h;simp only[cD,cH,vX,rq,pN]at h;exact⟨af,Z,λe=>by simp at aL;omega⟩
    |false=>
     rw[aL]at h;simp only[cw]at h;cases bB:(decide (d.k=3)||decide (d.k=9))with
     |true=>rw[bB]at h;simp only[cD,cH]at h;refine⟨af,?_,λe=>by simp at bB;omega⟩;have:=h.1;unfold kF at this;simp only[cH,gN]at this;omega
     |false=>
      rw[bB]at h;simp only[cw]at h;cases cA:decide (d.k=6)with
      |true=>
       rw[cA]at h;simp only[cD,cH,gN,vX,rq,pN,Pw]at h;refine⟨af,dC h.2.2,λ_=>?_⟩;obtain⟨⟨bb,bh,b2⟩,_⟩:=h;refine⟨Z,Z,?_⟩;rcases b2 with b2 | b2
       ·left
        simpa using b2
       ·right
        omega
      |false=>rw[cA]at h;simp only[cw,cH,gN]at h;exact⟨af,dC h.2.1,λe=>by simp at cA;omega⟩
def Hh:List Value:=[.int .i64 0,.int .i64 1,.string ⟨#[63]⟩,.int .i64 0,.int .i64 (-1),.string ⟨#[42]⟩,.int .i64 1,.int .i64 (-1),.string ⟨#[43]⟩]
def PA(I:aI):Prop:=∃ T ap,I 2=some (.cells Hh.toArray T ap)
def B1(lo:Nat)(hi:Int):List UInt8:=
 bif decide (hi=lo)then [123]++nP lo++[125]else
 bif decide (hi=-1)then [123]++nP lo++[44,125]else [123]++nP lo++[44]++nP hi.toNat++[125]
def tC(lo:Nat)(hi:Int):List UInt8:=
 bif decide ((0:Int)=lo)&&decide (1=hi)then [63]else
 bif decide ((0:Int)=lo)&&decide (-1=hi)then [42]else
 bif decide ((1:Int)=lo)&&decide (-1=hi)then [43]else B1 lo hi
def aiy(lo:Nat)(hi:Int):(B1 lo hi).length<=7:=by
 have aa:=G9 lo;have ab:=G9 hi.toNat;unfold B1;cases decide (hi=lo)<;>cases decide (hi=-1)<;>simp<;>omega
def aiz(lo:Nat)(hi:Int):(tC lo hi).length<=7:=by
 have aa:=aiy lo hi;unfold tC;cases(decide ((0:Int)=lo)&&decide (1=hi))<;>cases(decide ((0:Int)=lo)&&decide (-1=hi))<;>cases(decide ((1:Int)=lo)&&decide (-1=hi))<;>simp<;>omega
def Xa(n:Nat):(zP n).size<=2:=G9 n
def qE(lo hi:Int):ak:=⟨6,0,0,0,0,⟨#[]⟩,lo,hi,none,0,0,[]⟩
def aiA{lo:Nat}{hi:Int}(ft:lo<=99)(gO:hi=-1\/((lo:Int)<=hi/\hi<=99)):fits (qE lo hi) 1=true:=by
 have aN:oe 6=1:=by decide
 have bc:nc 6=1:=by decide
 rcases gO with rfl | ⟨aa,ab⟩
 ·simp[fits,qE,aN,bc,ak.jW];exact⟨fb Z,fb Z⟩
 ·simp[fits,qE,aN,bc,ak.jW];exact⟨fb Z,fb Z,.inr ⟨fb Z,fb Z⟩⟩
def aiB(a b:List UInt8):strOf a++strOf b=strOf (a++b):=by apply Ed;simp[strOf]
def fm.zV{P:Program}{t:Nat}{a b:List UInt8}(aw:a.length+b.length<=9223372036854775807){V:Value->Prop}(h:V (.string (strOf (a++b)))):fm P .add t x y (.val (.string (strOf a))) (.val (.string (strOf b))) V other:=
 fm.concat (a:=strOf a) (b:=strOf b) aw (by rw[aiB];exact h)
def aiC(ar:nd I)(aK:PA I)(lo:Nat)(hi:Int)(ft:lo<=99)(gO:hi=-1\/((lo:Int)<=hi/\hi<=99)):Spec Tryz.prog 382 [.int .i64 lo,.int .i64 hi] I []
  λr I' M'=>r=.string (strOf (tC lo hi))/\I'=I/\M'=[]:=by
 refine bR [] aT Tryz.func382 rfl rfl rfl ?_;intro B ax;have bl:(qE lo hi).ok I:=⟨by simp[qE],by simp[qE,eC],by simp[qE,eC],by simp[qE,eC],by simp[qE,eC],by show(0:Nat)<=_;omega,⟨aw',aw'⟩,⟨aw',aw'⟩,⟨rfl,⟨cf _,by simp[qE]⟩,.inl rfl⟩,by simp[qE]⟩;refine a9.mk [] [] _ (.refl _) (Pe ar bl 1) ?_;rintro v I' M' -⟨rfl,rfl,rfl⟩;rw[aiA ft gO];refine aS.mk (λh=>ci) (λ_=>?_);have bj:cG I' ([]++[]) ⟨2,0,none⟩ 9 Hh:=by obtain⟨T,ap,aK⟩:=aK;exact⟨rfl,_,T,ap,.inl aK,rfl,rfl⟩
 refine aJ.mk _ bj ?_;refine c2.inv (ι:=Nat) (λi=>{ bn:=[(0,.val (.int .i64 lo)),(1,.val (.int .i64 hi)),(12,.val (.agg Hh.toArray)),(13,.val (.int .i64 i))],cm:=I' }) (λi=>i<=3/\(1<=i->(decide ((0:Int)=lo)&&decide (1=hi))=false)/\(2<=i->(decide ((0:Int)=lo)&&decide (-1=hi))=false)/\(3<=i->(decide ((1:Int)=lo)&&decide (-1=hi))=false)) (λi=>3-i) ?_ ?_
 ·exact⟨0,⟨am,am,am,am⟩,.refl,dS,.nil⟩
 ·rintro i⟨h8,c4,m2,wG⟩
  match i,h8 with
  |0,_=>
   refine aS.mk (λ_=>?_) (λh=>d5);refine cj.mk 0 rfl bv ?_;have next:(decide ((0:Int)=lo)&&decide (1=hi))=false->(((0+1:Nat)<=3/\(1<=(0+1:Nat)->(decide ((0:Int)=lo)&&decide (1=hi))=false)/\(2<=(0+1:Nat)->(decide ((0:Int)=lo)&&decide (-1=hi))=false)/\(3<=(0+1:Nat)->(decide ((1:Int)=lo)&&decide (-1=hi))=false))/\3-(0+1)<3-0):=λh=>by
    refine⟨⟨am,λ_=>?_,λcU=>?_,λcU=>?_⟩,am⟩;·exact h
    ·simp at cU
    ·simp at cU
   refine bZ.mk (λbb=>?_) (λbb=>?_)
   ·refine aS.mk (λbh=>?_) (λbh=>?_)
    ·refine⟨_,_,.refl,?_,rfl,rfl⟩;have:tC lo hi=[63]:=by unfold tC;rw[bb,bh];rfl
     rw[this];rfl
    ·refine a3.mk 1 bv ?_;exact⟨1,next (by rw[bb,bh];rfl),.refl,dS,.nil⟩
   ·refine a3.mk 1 bv ?_;exact⟨1,next (by rw[bb];rfl),.refl,dS,.nil⟩
  |1,_=>
   refine aS.mk (λ_=>?_) (λh=>d5);refine cj.mk 1 rfl bv ?_;have next:(decide ((0:Int)=lo)&&decide (-1=hi))=false->(((1+1:Nat)<=3/\(1<=(1+1:Nat)->(decide ((0:Int)=lo)&&decide (1=hi))=false)/\(2<=(1+1:Nat)->(decide ((0:Int)=lo)&&decide (-1=hi))=false)/\(3<=(1+1:Nat)->(decide ((1:Int)=lo)&&decide (-1=hi))=false))/\3-(1+1)<3-1):=λh=>by
    refine⟨⟨am,λ_=>?_,λcU=>?_,λcU=>?_⟩,am⟩;·exact c4 bv
    ·exact h
    ·simp at cU
   refine bZ.mk (λbb=>?_) (λbb=>?_)
   ·refine aS.mk (λbh=>?_) (λbh=>?_)
    ·refine⟨_,_,.refl,?_,rfl,rfl⟩;have:tC lo hi=[42]:=by unfold tC;rw[c4 bv,bb,bh];rfl
     rw[this];rfl
    ·refine a3.mk 2 bv ?_;exact⟨2,next (by rw[bb,bh];rfl),.refl,dS,.nil⟩
   ·refine a3.mk 2 bv ?_;exact⟨2,next (by rw[bb];rfl),.refl,dS,.nil⟩
  |2,_=>
   refine aS.mk (λ_=>?_) (λh=>d5);refine cj.mk 2 rfl bv ?_;have next:(decide ((1:Int)=lo)&&decide (-1=hi))=false->(((2+1:Nat)<=3/\(1<=(2+1:Nat)->(decide ((0:Int)=lo)&&decide (1=hi))=false)/\(2<=(2+1:Nat)->(decide ((0:Int)=lo)&&decide (-1=hi))=false)/\(3<=(2+1:Nat)->(decide ((1:Int)=lo)&&decide (-1=hi))=false))/\3-(2+1)<3-2):=λh=>by
    refine⟨⟨am,λ_=>?_,λcU=>?_,λcU=>?_⟩,am⟩;·exact c4 bv
    ·exact m2 bv
    ·exact h
   refine bZ.mk (λbb=>?_) (λbb=>?_)
   ·refine aS.mk (λbh=>?_) (λbh=>?_)
    ·refine⟨_,_,.refl,?_,rfl,rfl⟩;have:tC lo hi=[43]:=by unfold tC;rw[c4 bv,m2 bv,bb,bh];rfl
     rw[this];rfl
    ·refine a3.mk 3 bv ?_;exact⟨3,next (by rw[bb,bh];rfl),.refl,dS,.nil⟩
   ·refine a3.mk 3 bv ?_;exact⟨3,next (by rw[bb];rfl),.refl,dS,.nil⟩
  |3,_=>
   refine aS.mk (λh=>d5) (λ_=>?_);have aN:=c4 bv;have bc:=m2 bv;have cy:=wG bv;have l1:tC lo hi=B1 lo hi:=by unfold tC;rw[aN,bc,cy];rfl
   rw[l1];have wH:=Xa lo;have Bs:=Xa hi.toNat;have wH:=G9 lo;refine aS.mk (λh=>?_) (λh=>?_);·refine a9.mk [] [] _ (.refl _) (KO lo Z) ?_;rintro v I' M' -⟨rfl,rfl,rfl⟩;refine fm.zV (a:=[123]) (b:=nP lo) d7 ?_;refine fm.zV (a:=[123]++nP lo) (b:=[125]) d7 ?_;refine⟨_,_,.refl,?_,rfl,rfl⟩;rw[B1,h];rfl
   ·refine aS.mk (λk=>?_) (λk=>?_)
    ·refine a9.mk [] [] _ (.refl _) (KO lo Z) ?_;rintro v I' M' -⟨rfl,rfl,rfl⟩;refine fm.zV (a:=[123]) (b:=nP lo) d7 ?_;refine fm.zV (a:=[123]++nP lo) (b:=[44,125]) d7 ?_;refine⟨_,_,.refl,?_,rfl,rfl⟩;rw[B1,h,k];rfl
    ·refine a9.mk [] [] _ (.refl _) (KO lo Z) ?_;rintro v I' M' -⟨rfl,rfl,rfl⟩;have af:hi≠-1:=by simpa using k
     obtain⟨aE,rfl⟩:=dZ (show 0<=hi by omega);have Bs:=G9 aE;refine fm.zV (a:=[123]) (b:=nP lo) d7 ?_;refine fm.zV (a:=[123]++nP lo) (b:=[44]) d7 ?_;refine a9.mk [] [] _ (.refl _) (KO aE Z) ?_;rintro v I' M' -⟨rfl,rfl,rfl⟩;refine fm.zV (a:=[123]++nP lo++[44]) (b:=nP aE) d7 ?_;refine fm.zV (a:=[123]++nP lo++[44]++nP aE) (b:=[125]) d7 ?_;refine⟨_,_,.refl,?_,rfl,rfl⟩;rw[B1,h,k];rfl
def uX:List (List UInt8):=[[],[],[],[],[],[],[],[],[],[],[],[],[],[32],[],[],[32,47,32],[],[],[],[],[38],[],[],[33],[],[],[60],[],[62]]
def sE(j:Nat):List UInt8:=uX.getD j []
def Hi(I:aI):Prop:=∃ T ap,I 1=some (.cells (uX.map λl=>Value.string (strOf l)).toArray T ap)
def Hi.rd(h:Hi I)(M:List aD)(ai:i+j<30):cG I M ((Addr.add ⟨1,0,none⟩ i).add j) 1 [.string (strOf (sE (i+j)))]:=by
 obtain⟨T,ap,h⟩:=h;rw[zS,eK _ rfl];refine⟨rfl,_,T,ap,.inl h,?_,rfl⟩;have aa:i+j<(uX.map λl=>Value.string (strOf l)).length:=by simp[uX];omega
 have ab:i+j<uX.length:=by simp[uX];omega
 simp only[dg];rw[e9 aa,rr,qw];simp[sE,bP,ab]
def Hj(j:Nat):(sE j).length<=3:=by
 by_cases h:j<30
 ·have:∀ j:Fin 30,(sE j.val).length<=3:=by decide
  exact this ⟨j,h⟩
 ·have:uX.length<=j:=by simp[uX];omega
  simp[sE,bP,this]
def rE(aB:List Int)(d:ak):List UInt8:=
 bif decide (d.k=0)||decide (d.k=2)then Ha d.t else
 bif decide (d.k=1)then BZ aB d.b0 d.s1 d.s2 d.cg else
 bif decide (d.k=3)then d.t.data.toList else
 bif decide (d.k=9)then sE 27++d.t.data.toList++[58,32]else sE (d.k.toNat*3)
def pX(d:ak):List UInt8:=bif decide (d.k=6)then tC d.lo.toNat d.hi else sE (d.k.toNat*3+2)
def aiD(s:ByteArray):strOf s.data.toList=s:=Ed (by simp[strOf])
def PB(ar:nd I)(aK:PA I)(KX:Hi I){d:ak}(aj:d.ok I)(aC:KW d):Spec Tryz.prog 364 [d.val] I [] λr I' M'=>r=.string (strOf (pX d))/\I'=I/\M'=[]:=by
 refine bR [] aT Tryz.func364 rfl rfl rfl ?_;intro B ax;refine aS.mk (λh=>?_) (λh=>?_)
 ·obtain⟨bb,bh,b2⟩:=aC.Hg i9;have aN:d.lo=((d.lo.toNat:Nat):Int):=by omega
  have l2:=aiC ar aK d.lo.toNat d.hi Z Z;rw[<-aN]at l2;refine a9.mk [] [] _ (.refl _) l2 ?_;rintro v I' M' -⟨rfl,rfl,rfl⟩;refine⟨_,_,.refl,?_,rfl,rfl⟩;simp only[pX,h];rfl
 ·have af:=aj.k;have ki:=aC.k;refine cj.mk d.k.toNat Z Z ?_;refine aJ.mk _ (KX.rd _ (by show d.k.toNat*3+2<30;omega)) ?_;refine⟨_,_,.refl,?_,rfl,rfl⟩;simp only[pX,h];rfl
def Xb(BX:sB I aB)(KX:Hi I){d:ak}(aj:d.ok I)(aC:KW d):Spec Tryz.prog 362 [d.val] I []
  λr I' M'=>r=.string (strOf (rE aB d))/\(∀ b o,I b=some o->I' b=some o)/\M'=[]:=by
 refine bR [] aT Tryz.func362 rfl rfl rfl ?_;intro B ax;have af:=aj.k;have ki:=aC.k;have au:=aC.t;have lit:(decide (d.k=0)||decide (d.k=2))=true->rE aB d=Ha d.t:=λh=>by simp only[rE,h];rfl
 refine aS.mk (λaa=>?_) (λaa=>?_)
 ·refine aS.mk (λ_=>?_) (λh=>by rw[aa]at h;cases h);refine a9.mk [] [] _ (.refl _) (W8 d.t Z) ?_;rintro v I' M' -⟨rfl,rfl,rfl⟩;refine⟨_,_,.refl,?_,λ_ _ h=>h,rfl⟩;rw[lit (by rw[aa];rfl)]
 ·refine aS.mk (λab=>?_) (λab=>?_)
  ·refine a9.mk [] [] _ (.refl _) (W8 d.t Z) ?_;rintro v I' M' -⟨rfl,rfl,rfl⟩;refine⟨_,_,.refl,?_,λ_ _ h=>h,rfl⟩;rw[lit (by rw[ab];simp)]
  ·refine aS.mk (λal=>?_) (λal=>?_)
   ·refine a9.mk [] [] _ (.refl _) (aix BX (a:=d.b0) (b:=d.s1) (c:=d.s2) (d:=d.cg) (λx ae=>by
     simp only[ez,List.not_mem_nil,or_false]at ae;rcases ae with rfl | rfl | rfl | rfl;·exact aj.b0
     ·exact aj.s1
     ·exact aj.s2
     ·exact aj.cg)) ?_
    rintro v I' M' -⟨rfl,bG,rfl⟩;refine⟨_,_,.refl,?_,bG,rfl⟩;simp only[rE,aa,ab,al];rfl
   ·refine aS.mk (λaL=>?_) (λaL=>?_)
    ·refine⟨_,_,.refl,?_,λ_ _ h=>h,rfl⟩;simp only[rE,aa,ab,al,aL];rw[<-aiD d.t];rfl
    ·refine aS.mk (λbB=>?_) (λbB=>?_)
     ·have aiE:d.k=9:=by simpa using bB
      refine cN.draw aT rfl rfl rfl ?_;refine cj.mk 9 aiE bv ?_;refine aJ.mk _ (KX.rd _ bv) ?_;have gf:(strOf (sE 27)).size=1:=by decide
      refine fm.concat (a:=strOf (sE 27)) (b:=d.t) Z ?_;refine fm.concat (a:=strOf (sE 27)++d.t) (b:=strOf [58,32]) (by rw[KR];show _+2<=_;omega) ?_;refine⟨_,_,.refl,?_,λ_ _ h=>h,rfl⟩;simp only[rE,aa,ab,al,aL,bB];refine congrArg Value.string (Ed ?_);simp[strOf]
     ·refine cj.mk d.k.toNat Z Z ?_;refine aJ.mk _ (KX.rd _ (by show d.k.toNat*3+0<30;omega)) ?_;refine⟨_,_,.refl,?_,λ_ _ h=>h,rfl⟩;simp only[rE,aa,ab,al,aL,bB];rfl
def iE(ns:List ak)(k:Int):Int:=(ns.map (·.k)).getD k.toNat 0
def paren(w:Bool)(s:List UInt8):List UInt8:=(bif w then [40]else [])++(s++(bif w then [41]else []))
def uY(sep:List UInt8)(f:Int->List UInt8):Bool->List Int->List UInt8
 |_,[]=>[]| b,k::ks=>(bif b then sep else [])++(f k++uY sep f true ks)
def Ej(d:ak):List UInt8:=sE (d.k.toNat*3+1)
def Ek(aB:List Int)(ns:List ak)(d:ak)(g:Int->List UInt8):List UInt8:=
 rE aB d++(uY (Ej d) (λk=>paren (hK d.k (iE ns k)) (g k)) false d.ao++pX d)
def k6(aB:List Int)(ns:List ak):Int->List UInt8:=mH [] (Ek aB ns) ns
def nT(aB:List Int)(t:bf):List UInt8:=bif right t then k6 aB t.ns t.bp else []
def Xc{sep:List UInt8}{f g:Int->List UInt8}:∀ {ks:List Int} {b:Bool},(∀ k∈ks,f k=g k)->uY sep f b ks=uY sep g b ks
 |[],b,_=>rfl| k::ks,b,h=>by unfold uY;rw[h k am,Xc λx ae=>h x f0]
def Xd(ag:right t=true)(ai:j<t.ns.length):k6 aB t.ns j=Ek aB t.ns t.ns[j] (k6 aB t.ns):=by refine D9 (λd g et h=>?_) ag ai;unfold Ek;rw[Xc λk af=>by rw[h k af]]
def aiF(w:Bool)(s:List UInt8):(paren w s).length<=s.length+2:=by cases w<;>simp[paren]
def Xe{sep:List UInt8}{f:Int->List UInt8}(aw:sep.length<=3){g:Int->Nat}(aC:∀ k,(f k).length+3<=g k):∀ {ks:List Int} {b:Bool},(uY sep f b ks).length<=fC g ks
 |[],b=>by simp[uY,fC]
 |k::ks,b=>by
  have aa:=Xe aw aC (ks:=ks) (b:=true);have ab:=aC k;unfold uY;simp only[ct,fC,ch,hx]at aa |-;cases b<;>simp<;>omega
def PC(aB:List Int){d:ak}(aC:KW d):(rE aB d).length<=2400:=by
 have aa:(Ha d.t).length<=2+4*d.t.size:=by have:=Hb (o2 · BY) 4 (λc=>G7 c BY) d.t.data.toList;have ab:d.t.data.toList.length=d.t.size:=rfl;simp only[Ha,ct,ey,hl];omega
 have ab:=aiw aB d.b0 d.s1 d.s2 d.cg;have al:=aC.t;have aL:=Hj 27;have bB:=Hj (d.k.toNat*3);have cA:d.t.data.toList.length=d.t.size:=rfl;unfold rE;cases(decide (d.k=0)||decide (d.k=2))<;>cases decide (d.k=1)<;>cases decide (d.k=3)<;>cases decide (d.k=9)<;>simp only[cD,cw,ct,ey,hl]<;>omega
def KY(d:ak):(pX d).length<=7:=by
 have aa:=aiz d.lo.toNat d.hi;have ab:=Hj (d.k.toNat*3+2);unfold pX;cases decide (d.k=6)<;>simp only[cD,cw]<;>omega
def KZ{α:Type}(c:Nat):∀ l:List α,(l.map λ_=>c).sum=c*l.length
 |[]=>by simp
 |x::l=>by rw[ch,hx,KZ c l,ey,Nat.mul_add];omega
def Xf(ag:right t=true):(k6 aB t.ns t.bp).length+5<=2412*t.ns.length:=by
 have h:=Pm ag (g:=λk=>(k6 aB t.ns k).length+5) (c:=λ_=>2412) λj ai=>by rw[Xd ag ai];have aa:=PC aB (Pz (D' ag ai));have ab:=KY t.ns[j];have al:=Xe (sep:=Ej t.ns[j]) (Hj _) (f:=λk=>paren (hK t.ns[j].k (iE t.ns k)) (k6 aB t.ns k)) (g:=λk=>(k6 aB t.ns k).length+5) (λk=>by have:=aiF (hK t.ns[j].k (iE t.ns k)) (k6 aB t.ns k);omega) (ks:=t.ns[j].ao) (b:=false);unfold Ek;simp only[ct];omega
 rw[KZ]at h;exact h
def Xg(aB:List Int)(t:bf):(nT aB t).length<=2412*t.ns.length:=by
 unfold nT;cases ag:right t with
 |false=>simp| true=>have:=Xf (aB:=aB) ag;simp only[cD];omega
abbrev Open:=Nat×Nat×Bool
def nU(e:Open):List Value:=[.int .i64 e.1,.int .i64 e.2.1,.bool e.2.2]
def nodeAt(ns:List ak)(j:Nat):ak:=ns.getD j ⟨0,0,0,0,0,.empty,0,0,none,0,0,[]⟩
def PD(aB:List Int)(ns:List ak)(d:ak)(k:Int):List UInt8:=paren (hK d.k (iE ns k)) (k6 aB ns k)
def o5(aB:List Int)(ns:List ak)(e:Open):List UInt8:=bif decide ((e.2.1:Int)=0)then(bif e.2.2 then [40]else [])++rE aB (nodeAt ns e.1)else []
def uZ(aB:List Int)(ns:List ak)(e:Open):List UInt8:=
 o5 aB ns e++(uY (Ej (nodeAt ns e.1)) (PD aB ns (nodeAt ns e.1)) (decide (0<(e.2.1:Int))) ((nodeAt ns e.1).ao.drop e.2.1)++(pX (nodeAt ns e.1)++(bif e.2.2 then [41]else [])))
def zW(ns:List ak):Int->Nat:=mH 0 (λd g=>2+fC g d.ao) ns
def oi(ns:List ak)(e:Open):Nat:=1+fC (zW ns) ((nodeAt ns e.1).ao.drop e.2.1)
def wI(ns:List ak)(a2:List Open):Nat:=(a2.map (oi ns)).sum
def u0(aB:List Int)(ns:List ak)(a2:List Open):List UInt8:=a2.reverse.flatMap (uZ aB ns)
def B2(aB:List Int)(ns:List ak)(a2:List Open)(e:Open):u0 aB ns (a2++[e])=uZ aB ns e++u0 aB ns a2:=by simp[u0]
def sF(ns:List ak)(a2:List Open)(e:Open):wI ns (a2++[e])=wI ns a2+oi ns e:=by simp[wI]
def Xh(ns:List ak):∀ a2:List Open,a2.length<=wI ns a2
 |[]=>by simp
 |e::a2=>by have:=Xh ns a2;simp only[wI,ch,hx,ey,oi]at this |-;omega
def fw{ns:List ak}(h:j<ns.length):nodeAt ns j=ns[j]:=by simp[nodeAt,bP,h]
def Xi{g et:Int->Nat}{ks:List Int}(h:∀ k∈ks,g k=et k):fC g ks=fC et ks:=by unfold fC;rw[fX h]
def Xj(ag:right t=true)(ai:j<t.ns.length):zW t.ns j=2+fC (zW t.ns) t.ns[j].ao:=
 D9 (λd g et h=>by rw[Xi h]) ag ai
def aiG(ag:right t=true):zW t.ns t.bp<=2*t.ns.length:=by
 have:=Pm ag (g:=zW t.ns) (c:=λ_=>2) λj ai=>by rw[Xj ag ai];exact cf _
 rwa [KZ]at this
def Xk(ag:right t=true)(ai:j<t.ns.length)(w:Bool):uZ aB t.ns (j,0,w)=paren w (k6 aB t.ns j):=by rw[Xd ag ai];simp only[uZ,o5,fw ai];cases w<;>simp[paren,Ek,PD]<;>rfl
def Xl(ag:right t=true)(ai:j<t.ns.length)(w:Bool):oi t.ns (j,0,w)+1=zW t.ns j:=by rw[Xj ag ai];simp[oi,fw ai];omega
def PE(ag:right t=true)(ai:j<t.ns.length)(hi:i<t.ns[j].ao.length) :
  uZ aB t.ns (j,i,w)=o5 aB t.ns (j,i,w)++((bif decide (0<(i:Int))then Ej t.ns[j]else [])++(uZ aB t.ns (t.ns[j].ao[i].toNat,0,hK t.ns[j].k (iE t.ns t.ns[j].ao[i]))++uZ aB t.ns (j,i+1,w))):=by
 have af:=jX ag j ai _ (bD hi);rw[Xk ag Z];have aN:(((t.ns[j].ao[i].toNat:Nat):Int))=t.ns[j].ao[i]:=zy af.1;rw[aN];have aj:=e9 hi;simp only[uZ,fw ai];rw[aj];have bc:o5 aB t.ns (j,i+1,w)=[]:=by have:decide (((i+1:Nat):Int)=0)=false:=fb Z;simp only[o5,this,cw]
 have cy:decide (0<((i+1:Nat):Int))=true:=hM Z;rw[bc,cy];simp only[uY,PD,ej,hW]
def PF(ag:right t=true)(ai:j<t.ns.length){w':Bool}(hi:i<t.ns[j].ao.length):oi t.ns (j,i+1,w)+oi t.ns (t.ns[j].ao[i].toNat,0,w')+1=oi t.ns (j,i,w):=by
 have af:=jX ag j ai _ (bD hi);have aa:=Xl ag (j:=t.ns[j].ao[i].toNat) Z w';have aN:(((t.ns[j].ao[i].toNat:Nat):Int))=t.ns[j].ao[i]:=zy af.1;rw[aN]at aa;have aj:=e9 hi;have cy:oi t.ns (j,i,w)=1+fC (zW t.ns) (t.ns[j].ao.drop i):=by simp[oi,fw ai]
 have dX:oi t.ns (j,i+1,w)=1+fC (zW t.ns) (t.ns[j].ao.drop (i+1)):=by simp[oi,fw ai]
 rw[cy,dX,aj];simp only[fC,ch,hx];omega
def PG(ai:j<t.ns.length)(hi:t.ns[j].ao.length<=i):uZ aB t.ns (j,i,w)=o5 aB t.ns (j,i,w)++(pX t.ns[j]++(bif w then [41]else [])):=by simp only[uZ,fw ai,l5 hi];rfl
def PH{d:Nat}{x:dK}(h:F d=x):g0 F d x=F:=by
 funext t;unfold g0;cases e:Nat.beq t d with
 |false=>rfl| true=>have:=ei e;subst this;exact h.symm
def aiH{d:Nat}{x:Option (List Value)}(h:C d=x):jC C d x=C:=by
 funext t;unfold jC;cases e:Nat.beq t d with
 |false=>rfl| true=>have:=ei e;subst this;exact h.symm
def K0:Code->Code
 | .scope c=>c
 | .seq a b=>match K0 a with
  | .skip=>K0 b| c=>c
 |_=>.skip
def Xm(c:Code)(l:Nat):Code:=(findLabel c l).getD .skip
def b'.zS{b:Nat}{K:List aD->Prop}(ba post:List aD)(cs:Array Value)(T:Nat)(bd:M=ba++⟨b,.cells cs T (0,0)⟩::post)(ah:i+j+vs.length<=cs.size)(aa:fG vs=true)
  (h:K (ba++⟨b,.cells (cp cs.toList (i+j) vs).toArray T (0,0)⟩::post)):b' M (((⟨b,0,none⟩:Addr).add i).add j) vs K:=by
 rw[Go.V.zS];refine b'.add ba post cs T bd Z aa ?_;rw[dg];exact h
structure fr(I:aI)(aB:List Int):Prop where
 c:nd I
 p:PA I
 s:Hi I
 d:sB I aB
def PI(a b c:α)(L:List α):(a::b::(L++[c])).Perm ([b,c]++(a::L)):=
 (List.Perm.swap b a _).trans (((((Pt c L).cons a)).trans (List.Perm.swap c a L)).cons b)
def PJ(ba:List Value)(a b c z:Value)(bq:List Value):cp (ba++([a,b,c]++bq)) (ba.length+1) [z]=ba++([a,z,c]++bq):=by have:=W6 ba a b z (c::bq) _ rfl;exact this
def fr.mono{I':aI}(h:fr I aB)(bG:∀ b o,I b=some o->I' b=some o):fr I' aB:=by obtain⟨⟨aiI,f1,aa⟩,⟨B3,f2,ab⟩,⟨aiJ,f3,al⟩,⟨aL,bB,PK,f4,cA⟩⟩:=h;exact⟨⟨aiI,f1,bG _ _ aa⟩,⟨B3,f2,bG _ _ ab⟩,⟨aiJ,f3,bG _ _ al⟩,⟨aL,bB,PK,f4,bG _ _ cA⟩⟩
def pY(a2:List Open):List Value:=a2.flatMap nU
def Hk(a2:List Open):(pY a2).length=a2.length*3:=gz nU 3 (λ_=>rfl) a2
def B4(a2:List Open)(e:Open):pY (a2++[e])=pY a2++[.int .i64 e.1,.int .i64 e.2.1,.bool e.2.2]:=by simp[pY,nU]
abbrev Hl:=gC×aO×List Open×aI
def Xn(t:bf)(g:Nat)(x:Hl):v':={ bn:=[(1,.ref 1 0),(3,.val (ptr g)),(4,.val x.2.1.val)],cl:=[(1,t.cells)],cm:=x.2.2.2,cK:=x.2.1.aq 378++x.1.M g }
structure K1(dU:aI)(aB:List Int)(t:bf)(x:Hl):Prop where
 le:∀ b o,dU b=some o->x.2.2.2 b=some o
 ok:x.1.ok
 os:x.2.1.ok 3 (pY x.2.2.1)
 ne:x.2.2.1≠[]
 awu:∀ e∈x.2.2.1,e.1<t.ns.length
 awv:x.1.cE++u0 aB t.ns x.2.2.1=k6 aB t.ns t.bp
 aww:wI t.ns x.2.2.1<=2*t.ns.length
def Xo{dU:aI}(bm:fr dU aB)(au:t.ok dU)(ag:right t=true)(aE:t.n<=1024){p:Nat->Nat×Hl->Prop}(x:Hl)(ae:K1 dU aB t x)(aK:∀ y,K1 dU aB t y->wI t.ns y.2.2.1<wI t.ns x.2.2.1->p 0 (g,y))(B:Nat)(ax:World)(G:Fr)(B5:dB) :
  V ⟨Tryz.prog,sA,[3],Tryz.f343.ntmps,B,ax,dU,[],none⟩ (Xm (K0 (Tryz.f343.body.getD .skip)) 0) (g0 (g0 (g0 G 4 (.val x.2.1.val)) 3 (.val (ptr g))) 1 (.ref 1 0)) (jC B5 1 (some t.cells)) x.2.2.2 (x.2.1.aq 378++x.1.M g)
   (OU (λl=>pH [] (λy=>Xn t y.1 y.2) (p l)) (wc ⟨Tryz.prog,sA,[3],Tryz.f343.ntmps,B,ax,dU,[],none⟩ Tryz.f343.results.toList
    (λr I' M'=>r=.string (strOf (k6 aB t.ns t.bp))/\(∀ b o,dU b=some o->I' b=some o)/\M'=[]))):=by
 obtain⟨x,⟨uT,n,fv,aR⟩,a2,I1⟩:=x;obtain⟨bo,Hm,bV,bH,fx,oj,B6⟩:=ae;simp only at bo Hm bV bH fx oj B6 aK |-;have lI:=bm.mono bo;have tD:=au.mono bo;have pM:=au.n;obtain⟨ia,⟨j,i,w⟩,rfl⟩:∃ ia e,a2=ia++[e]:=by
  rcases xS a2 with h | ⟨r,e,h⟩;·exact(bH h).elim
  ·exact⟨r,e,i9⟩
 have gJ:ia.length+1=n:=by have aa:=bV.len;rw[Hk]at aa;simp at aa;omega
 have ai:j<t.ns.length:=fx (j,i,w) am;have jT:j<t.n:=by omega
 cases uT with
 |none=>have:=(bV.nil rfl).1;simp only at this;omega| some c9=>
 obtain⟨dN,na,l6,dI⟩:=bV.cap c9 rfl;simp only at dN na l6 dI;have gD:(pY ia).length=(n-1)*3:=by rw[Hk];omega
 obtain⟨bq,nS⟩:∃ bq,aR=pY ia++([.int .i64 j,.int .i64 i,.bool w]++bq):=by refine⟨aR.drop (n*3),?_⟩;have ab:=pO (n*3) aR;rw[dI,B4,ej]at ab;exact ab.symm
 have PL:aR[(n-1)*3+0]?=some (.int .i64 j):=by rw[nS,<-gD,l4 Z];simp
 have qF:aR[(n-1)*3+1]?=some (.int .i64 i):=by rw[nS,<-gD,l4 Z];simp
 have El:aR[(n-1)*3+2]?=some (.bool w):=by rw[nS,<-gD,l4 Z];simp
 have u1:=Xf (aB:=aB) ag;have kk:x.cE.length<=2412*t.ns.length:=by have:=congrArg List.length oj;rw[ct]at this;omega
 have Xp:=Xh t.ns (ia++[(j,i,w)]);simp only[ct,ey,hl]at Xp;have gB:=tD.ns t.ns[j] (bD ai);have eF:=gB.aA;have sr:=Pz (D' ag ai);obtain⟨ad,bt,bj⟩:=tD.a'.row ak.cq jT ai;rw[B2]at oj;rw[sF]at B6 aK Xp;have nV:IntKind.i64.wrap ((n:Int)-1)=((n-1:Nat):Int):=by rw[wrap_i64 ⟨Z,Z⟩];omega
 refine a3.mk (((n-1:Nat)):Int) nV ?_;refine bi.mk ⟨c9,0,none⟩ (n-1) rfl rfl (by show n-1<n;omega) ?_;refine cN.draw aT rfl rfl rfl ?_;refine aJ.mk [.int .i64 j] (nR (b:=c9) (cs:=aR) (T:=378) gt PL) ?_;refine bi.mk ad j bt rfl jT ?_;refine aJ.mk _ (bj _) ?_;refine bN.mk λb6 Em Xq=>?_;refine b'.mk [] (⟨c9,.cells aR.toArray 378 (0,0)⟩::x.M g) _ _ rfl rfl (bJ rfl) rfl ?_;refine aJ.mk [.int .i64 i] (nR (b:=c9) (cs:=aR) (T:=378) gt qF) ?_;refine aS.mk (λaa=>?_) (λaa=>?_)
 ·refine aJ.mk [.bool w] (nR (b:=c9) (cs:=aR) (T:=378) gt El) ?_;refine aS.mk (λab=>?_) (λab=>?_)
  ·refine a9.mk (x.M g) [⟨b6,.cells t.ns[j].cells.toArray 88 (0,0)⟩,⟨c9,.cells aR.toArray 378 (0,0)⟩] _ (eM (l₁:=[_,_])) (pT g Hm 40 Z) ?_;rintro v ed dp -⟨rfl,rfl,y,aF,g',rfl⟩;have G8:y.cE.length<=2412*t.ns.length+1:=by rw[g'];simp;omega
   refine aJ.mk _ (dj (T:=88) (b:=b6) (cs:=t.ns[j].cells) (k:=0) (n:=9) am (bJ rfl)) ?_;refine a9.mk [] (y.M g++[⟨b6,.cells t.ns[j].cells.toArray 88 (0,0)⟩,⟨c9,.cells aR.toArray 378 (0,0)⟩]) _ am (Xb lI.d lI.s gB sr) ?_;rintro v ed dp -⟨rfl,gq,rfl⟩;have mI:∀ b o,dU b=some o->ed b=some o:=λb o h=>gq _ _ (bo _ _ h);have En:=PC aB sr;refine a9.mk (y.M g) [⟨b6,.cells t.ns[j].cells.toArray 88 (0,0)⟩,⟨c9,.cells aR.toArray 378 (0,0)⟩] _ am (uP g aF _ ayc) ?_;rintro v lF oW -⟨rfl,rfl,u,hu,x1,rfl⟩;have sG:u.cE=x.cE++o5 aB t.ns (j,i,w):=by rw[x1,g'];simp only[o5,aa,ab,fw ai,cD,cw];simp[strOf]
   have Hc:u.cE.length<=2412*t.ns.length+2401:=by rw[sG,ct];simp only[o5,aa,ab,fw ai,cD,cw,ct,ey,hl];omega
   have hY:=bm.mono mI;have nW:=au.mono mI;have rF:=nW.ns t.ns[j] (bD ai);have Hn:∀ {k m:Nat},k+m<=9->cG lF (u.M g++[⟨b6,.cells t.ns[j].cells.toArray 88 (0,0)⟩,⟨c9,.cells aR.toArray 378 (0,0)⟩]) ((⟨b6,0,none⟩:Addr).add k) m ((t.ns[j].cells.drop k).take m):=λh=>dj (T:=88) am h;refine cN.draw aT rfl rfl rfl ?_;refine aJ.mk [.int .i64 i] (nR (b:=c9) (cs:=aR) (T:=378) gt qF) ?_;refine aJ.mk _ (Hn bv) ?_;refine aS.mk (λaf=>?_) (λaf=>?_)
   ·have dP:i<t.ns[j].aA:=by simpa using af
    have rG:i<t.ns[j].ao.length:=by omega
    obtain⟨fq,eN,eL⟩:=rF.a'.one dP rG;have eR:=jX ag j ai _ (bD rG);obtain⟨q,x6⟩:=dZ eR.1;have hA:q<t.ns.length:=by omega
    have o6:q<t.n:=by omega
    obtain⟨rH,x7,x8⟩:=nW.a'.row ak.cq o6 hA;have x9:∀ M,cG lF M ((rH.add (q*9)).add 0) 1 [.int .u8 t.ns[q].k]:=λM=>(x8 M).part (k:=0) (m:=1) bv;have u2:iE t.ns ((q:Nat):Int)=t.ns[q].k:=by simp[iE,bP,hA]
    have jr:=PE (aB:=aB) ag ai (w:=w) rG;have zX:=PF ag ai (w:=w) (w':=hK t.ns[j].k t.ns[q].k) rG;rw[x6]at jr zX;simp only[B0,h2]at jr zX;rw[u2]at jr;have gA:IntKind.i64.wrap ((i:Int)+1)=((i+1:Nat):Int):=by have:=rF.a'.cap;rw[wrap_i64 ⟨Z,Z⟩];omega
    have de:cp aR ((n-1)*3+1) [.int .i64 ((i+1:Nat):Int)]=pY ia++([.int .i64 j,.int .i64 ((i+1:Nat):Int),.bool w]++bq):=by rw[nS,<-gD];exact PJ _ _ _ _ _ _
    have B7:aO.ok ⟨some c9,n,fv,cp aR ((n-1)*3+1) [.int .i64 ((i+1:Nat):Int)]⟩ 3 (pY (ia++[(j,i+1,w)])):=by
     rw[de,B4];refine⟨ST,(λh=>ci),λb2 _=>⟨?_,na,l6,?_⟩⟩;·simp only;rw[<-dN,nS];simp
     ·simp only;rw[<-ej];refine sw ?_;simp only[ct,ey,hl];omega
    refine aJ.mk [.int .i64 i] (nR (b:=c9) (cs:=aR) (T:=378) gt qF) ?_;refine aS.mk (λbg=>ay0) (λbg=>?_);refine cN.draw aT rfl rfl rfl ?_;refine aJ.mk _ (dj (T:=88) (b:=b6) (cs:=t.ns[j].cells) (k:=8) (n:=1) am (bJ rfl)) ?_;refine aJ.mk [.int .i64 i] (nR (b:=c9) (cs:=aR) (T:=378) gt qF) ?_;refine bi.mk fq i eN rfl dP ?_;refine aJ.mk [.int .i64 (q:Nat)] WF ?_;refine aJ.mk [.int .i64 i] (nR (b:=c9) (cs:=aR) (T:=378) gt qF) ?_;refine a3.mk ((i+1:Nat):Int) gA ?_;refine b'.zS (u.M g++[⟨b6,.cells t.ns[j].cells.toArray 88 (0,0)⟩]) [] aR.toArray 378 gt ?_ rfl ?_;·simp only[q6];show(n-1)*3+1+1<=_;omega
    refine cN.draw aT rfl rfl rfl ?_;refine aJ.mk [.int .u8 t.ns[j].k] (dj (T:=88) (b:=b6) (cs:=t.ns[j].cells) (k:=0) (n:=1) am (bJ rfl)) ?_;refine bi.mk rH q x7 rfl o6 ?_;refine aJ.mk [.int .u8 t.ns[q].k] (x9 _) ?_;refine er.mk _ (Po t.ns[j].k t.ns[q].k) ?_;rintro v Ho qA -⟨rfl,rfl,rfl⟩;refine bN.mk λb9 kI x'=>?_;refine bz.append aT rfl am (e:=378) rfl rfl rfl ⟨some c9,n,fv,cp aR ((n-1)*3+1) [.int .i64 ((i+1:Nat):Int)]⟩ (xs:=pY (ia++[(j,i+1,w)])) B7 rfl (m:=1) rfl (cb:=nU (q,0,hK t.ns[j].k t.ns[q].k)) bv (dj (b:=b9) (cs:=nU (q,0,hK t.ns[j].k t.ns[q].k)) (k:=0) (n:=3) (T:=378) (.head _) (bJ rfl)) rfl (Mr:=⟨b9,.cells (nU (q,0,hK t.ns[j].k t.ns[q].k)).toArray 378 (0,0)⟩::(u.M g++[⟨b6,.cells t.ns[j].cells.toArray 88 (0,0)⟩])) d8 IO ayV ?_;intro et c' kl ee eO eS jq;refine⟨(g,u,⟨some et,n+1,c',kl⟩,ia++[(j,i+1,w)]++[(q,0,hK t.ns[j].k t.ns[q].k)],_),aK _ ⟨mI,hu,⟨?_,(λh=>ci),λb2 _=>⟨ee,eO,eS,?_⟩⟩,am,?_,?_,?_⟩ ?_,.perm (M1:=[⟨b9,.cells (nU (q,0,hK t.ns[j].k t.ns[q].k)).toArray 378 (0,0)⟩,⟨b6,.cells t.ns[j].cells.toArray 88 (0,0)⟩]++(⟨et,.cells kl.toArray 378 (0,0)⟩::u.M g)) (PI _ _ _ _) (.sub (m4 _ _) .refl),e2,.cons rfl .nil⟩;·show _=(n+1)*3;rw[Hk];simp;omega
    ·show kl.take ((n+1)*3)=_;rw[B4 (ia++[(j,i+1,w)])];exact jq
    ·intro e he;simp only[cW,ep]at he;rcases he with(he | rfl) | rfl
     ·exact fx e ag'
     ·exact ai
     ·exact hA
    ·simp only;rw[B2,B2,sG,<-oj,jr];rw[show decide (0<(i:Int))=false from bg];simp
    ·simp only;rw[sF,sF];omega
    ·simp only;rw[sF,sF];omega
   ·have dP:t.ns[j].ao.length<=i:=by simp at af;omega
    have jr:=PG (aB:=aB) ai (w:=w) dP;have kf:=KY t.ns[j];refine aJ.mk _ (dj (T:=88) (b:=b6) (cs:=t.ns[j].cells) (k:=0) (n:=9) am (bJ rfl)) ?_;refine a9.mk [] (u.M g++[⟨b6,.cells t.ns[j].cells.toArray 88 (0,0)⟩,⟨c9,.cells aR.toArray 378 (0,0)⟩]) _ (.refl _) (PB hY.c hY.p hY.s rF sr) ?_;rintro v Ho qA -⟨rfl,rfl,rfl⟩;refine a9.mk (u.M g) [⟨b6,.cells t.ns[j].cells.toArray 88 (0,0)⟩,⟨c9,.cells aR.toArray 378 (0,0)⟩] _ am (uP g hu _ LE) ?_;rintro v Xr Xs -⟨rfl,rfl,a,a8,lJ,rfl⟩;have Xt:a.cE.length<=2412*t.ns.length+2410:=by rw[lJ,ct];show _+(pX t.ns[j]).length<=_;omega
    refine aJ.mk [.bool w] (nR (b:=c9) (cs:=aR) (T:=378) gt El) ?_;refine aS.mk (λhw=>?_) (λhw=>?_)
    ·subst hw;refine a9.mk (a.M g) [⟨b6,.cells t.ns[j].cells.toArray 88 (0,0)⟩,⟨c9,.cells aR.toArray 378 (0,0)⟩] _ am (pT g a8 41 Z) ?_;rintro v Xu Xv -⟨rfl,rfl,c,ar,l1,rfl⟩;refine a3.mk (((n-1:Nat)):Int) nV ?_;refine j7.mk 0 (n-1) rfl rfl (dh _) i6 ?_;refine aS.mk (λbg=>?_) (λbg=>?_)
     ·have gU:0<n-1:=by simp at bg;omega
      refine⟨(g,c,⟨some c9,n-1,fv,aR⟩,ia,_),aK _ ⟨mI,ar,⟨?_,(λh=>ci),λb2 _=>⟨dN,i6,l6,?_⟩⟩,?_,λe he=>fx e ag',?_,?_⟩ ?_,.perm (M1:=[⟨b6,.cells t.ns[j].cells.toArray 88 (0,0)⟩]++(⟨c9,.cells aR.toArray 378 (0,0)⟩::c.M g)) (eM (l₂:=[_,_])) (.sub (m4 _ _) .refl),e2,.cons rfl .nil⟩;·exact gD
      ·show aR.take ((n-1)*3)=_;rw[nS,<-gD];exact sw rfl
      ·intro h;simp only at h;rw[h]at gJ;simp at gJ;omega
      ·simp only;rw[l1,lJ,sG,<-oj,jr];simp[strOf]
      ·simp only;omega
      ·simp only[oi];omega
     ·have gU:n-1=0:=by simp at bg;omega
      have u3:ia=[]:=iB Z;have o7:c.cE=k6 aB t.ns t.bp:=by rw[l1,lJ,sG,<-oj,jr,u3];simp[u0,strOf]
      refine a9.mk (c.M g) [⟨b6,.cells t.ns[j].cells.toArray 88 (0,0)⟩,⟨c9,.cells aR.toArray 378 (0,0)⟩] _ am (xZ g ar at8) ?_;rintro v Hp Hq -⟨rfl,rfl,rfl⟩;refine⟨_,_,.sub (eY _) .refl,?_,mI,rfl⟩;rw[o7];rfl
    ·subst hw;refine a3.mk (((n-1:Nat)):Int) nV ?_;refine j7.mk 0 (n-1) rfl rfl (dh _) i6 ?_;refine aS.mk (λbg=>?_) (λbg=>?_)
     ·have gU:0<n-1:=by simp at bg;omega
      refine⟨(g,a,⟨some c9,n-1,fv,aR⟩,ia,_),aK _ ⟨mI,a8,⟨?_,(λh=>ci),λb2 _=>⟨dN,i6,l6,?_⟩⟩,?_,λe he=>fx e ag',?_,?_⟩ ?_,.perm (M1:=[⟨b6,.cells t.ns[j].cells.toArray 88 (0,0)⟩]++(⟨c9,.cells aR.toArray 378 (0,0)⟩::a.M g)) (eM (l₂:=[_,_])) (.sub (m4 _ _) .refl),e2,.cons rfl .nil⟩;·exact gD
      ·show aR.take ((n-1)*3)=_;rw[nS,<-gD];exact sw rfl
      ·intro h;simp only at h;rw[h]at gJ;simp at gJ;omega
      ·simp only;rw[lJ,sG,<-oj,jr];simp[strOf]
      ·simp only;omega
      ·simp only[oi];omega
     ·have gU:n-1=0:=by simp at bg;omega
      have u3:ia=[]:=iB Z;have o7:a.cE=k6 aB t.ns t.bp:=by rw[lJ,sG,<-oj,jr,u3];simp[u0,strOf]
      refine a9.mk (a.M g) [⟨b6,.cells t.ns[j].cells.toArray 88 (0,0)⟩,⟨c9,.cells aR.toArray 378 (0,0)⟩] _ am (xZ g a8 at8) ?_;rintro v Hp Hq -⟨rfl,rfl,rfl⟩;refine⟨_,_,.sub (eY _) .refl,?_,mI,rfl⟩;rw[o7];rfl
  ·refine aJ.mk _ (dj (T:=88) (b:=b6) (cs:=t.ns[j].cells) (k:=0) (n:=9) (.head _) (bJ rfl)) ?_;refine a9.mk [] (⟨b6,.cells t.ns[j].cells.toArray 88 (0,0)⟩::⟨c9,.cells aR.toArray 378 (0,0)⟩::x.M g) _ (.refl _) (Xb lI.d lI.s gB sr) ?_;rintro v ed dp -⟨rfl,gq,rfl⟩;have mI:∀ b o,dU b=some o->ed b=some o:=λb o h=>gq _ _ (bo _ _ h);have En:=PC aB sr;refine a9.mk (x.M g) [⟨b6,.cells t.ns[j].cells.toArray 88 (0,0)⟩,⟨c9,.cells aR.toArray 378 (0,0)⟩] _ (eM (l₁:=[_,_])) (uP g Hm _ ayc) ?_;rintro v lF oW -⟨rfl,rfl,u,hu,x1,rfl⟩;have sG:u.cE=x.cE++o5 aB t.ns (j,i,w):=by rw[x1];simp only[o5,aa,ab,fw ai,cD,cw];simp[strOf]
   have Hc:u.cE.length<=2412*t.ns.length+2401:=by rw[sG,ct];simp only[o5,aa,ab,fw ai,cD,cw,ct,ey,hl];omega
   have hY:=bm.mono mI;have nW:=au.mono mI;have rF:=nW.ns t.ns[j] (bD ai);have Hn:∀ {k m:Nat},k+m<=9->cG lF (u.M g++[⟨b6,.cells t.ns[j].cells.toArray 88 (0,0)⟩,⟨c9,.cells aR.toArray 378 (0,0)⟩]) ((⟨b6,0,none⟩:Addr).add k) m ((t.ns[j].cells.drop k).take m):=λh=>dj (T:=88) am h;refine cN.draw aT rfl rfl rfl ?_;refine aJ.mk [.int .i64 i] (nR (b:=c9) (cs:=aR) (T:=378) gt qF) ?_;refine aJ.mk _ (Hn bv) ?_;refine aS.mk (λaf=>?_) (λaf=>?_)
   ·have dP:i<t.ns[j].aA:=by simpa using af
    have rG:i<t.ns[j].ao.length:=by omega
    obtain⟨fq,eN,eL⟩:=rF.a'.one dP rG;have eR:=jX ag j ai _ (bD rG);obtain⟨q,x6⟩:=dZ eR.1;have hA:q<t.ns.length:=by omega
    have o6:q<t.n:=by omega
    obtain⟨rH,x7,x8⟩:=nW.a'.row ak.cq o6 hA;have x9:∀ M,cG lF M ((rH.add (q*9)).add 0) 1 [.int .u8 t.ns[q].k]:=λM=>(x8 M).part (k:=0) (m:=1) bv;have u2:iE t.ns ((q:Nat):Int)=t.ns[q].k:=by simp[iE,bP,hA]
    have jr:=PE (aB:=aB) ag ai (w:=w) rG;have zX:=PF ag ai (w:=w) (w':=hK t.ns[j].k t.ns[q].k) rG;rw[x6]at jr zX;simp only[B0,h2]at jr zX;rw[u2]at jr;have gA:IntKind.i64.wrap ((i:Int)+1)=((i+1:Nat):Int):=by have:=rF.a'.cap;rw[wrap_i64 ⟨Z,Z⟩];omega
    have de:cp aR ((n-1)*3+1) [.int .i64 ((i+1:Nat):Int)]=pY ia++([.int .i64 j,.int .i64 ((i+1:Nat):Int),.bool w]++bq):=by rw[nS,<-gD];exact PJ _ _ _ _ _ _
    have B7:aO.ok ⟨some c9,n,fv,cp aR ((n-1)*3+1) [.int .i64 ((i+1:Nat):Int)]⟩ 3 (pY (ia++[(j,i+1,w)])):=by
     rw[de,B4];refine⟨ST,(λh=>ci),λb2 _=>⟨?_,na,l6,?_⟩⟩;·simp only;rw[<-dN,nS];simp
     ·simp only;rw[<-ej];refine sw ?_;simp only[ct,ey,hl];omega
    refine aJ.mk [.int .i64 i] (nR (b:=c9) (cs:=aR) (T:=378) gt qF) ?_;refine aS.mk (λbg=>ay0) (λbg=>?_);refine cN.draw aT rfl rfl rfl ?_;refine aJ.mk _ (dj (T:=88) (b:=b6) (cs:=t.ns[j].cells) (k:=8) (n:=1) am (bJ rfl)) ?_;refine aJ.mk [.int .i64 i] (nR (b:=c9) (cs:=aR) (T:=378) gt qF) ?_;refine bi.mk fq i eN rfl dP ?_;refine aJ.mk [.int .i64 (q:Nat)] WF ?_;refine aJ.mk [.int .i64 i] (nR (b:=c9) (cs:=aR) (T:=378) gt qF) ?_;refine a3.mk ((i+1:Nat):Int) gA ?_;refine b'.zS (u.M g++[⟨b6,.cells t.ns[j].cells.toArray 88 (0,0)⟩]) [] aR.toArray 378 gt ?_ rfl ?_;·simp only[q6];show(n-1)*3+1+1<=_;omega
    refine cN.draw aT rfl rfl rfl ?_;refine aJ.mk [.int .u8 t.ns[j].k] (dj (T:=88) (b:=b6) (cs:=t.ns[j].cells) (k:=0) (n:=1) am (bJ rfl)) ?_;refine bi.mk rH q x7 rfl o6 ?_;refine aJ.mk [.int .u8 t.ns[q].k] (x9 _) ?_;refine er.mk _ (Po t.ns[j].k t.ns[q].k) ?_;rintro v Ho qA -⟨rfl,rfl,rfl⟩;refine bN.mk λb9 kI x'=>?_;refine bz.append aT rfl am (e:=378) rfl rfl rfl ⟨some c9,n,fv,cp aR ((n-1)*3+1) [.int .i64 ((i+1:Nat):Int)]⟩ (xs:=pY (ia++[(j,i+1,w)])) B7 rfl (m:=1) rfl (cb:=nU (q,0,hK t.ns[j].k t.ns[q].k)) bv (dj (b:=b9) (cs:=nU (q,0,hK t.ns[j].k t.ns[q].k)) (k:=0) (n:=3) (T:=378) (.head _) (bJ rfl)) rfl (Mr:=⟨b9,.cells (nU (q,0,hK t.ns[j].k t.ns[q].k)).toArray 378 (0,0)⟩::(u.M g++[⟨b6,.cells t.ns[j].cells.toArray 88 (0,0)⟩])) d8 IO ayV ?_;intro et c' kl ee eO eS jq;refine⟨(g,u,⟨some et,n+1,c',kl⟩,ia++[(j,i+1,w)]++[(q,0,hK t.ns[j].k t.ns[q].k)],_),aK _ ⟨mI,hu,⟨?_,(λh=>ci),λb2 _=>⟨ee,eO,eS,?_⟩⟩,am,?_,?_,?_⟩ ?_,.perm (M1:=[⟨b9,.cells (nU (q,0,hK t.ns[j].k t.ns[q].k)).toArray 378 (0,0)⟩,⟨b6,.cells t.ns[j].cells.toArray 88 (0,0)⟩]++(⟨et,.cells kl.toArray 378 (0,0)⟩::u.M g)) (PI _ _ _ _) (.sub (m4 _ _) .refl),e2,.cons rfl .nil⟩;·show _=(n+1)*3;rw[Hk];simp;omega
    ·show kl.take ((n+1)*3)=_;rw[B4 (ia++[(j,i+1,w)])];exact jq
    ·intro e he;simp only[cW,ep]at he;rcases he with(he | rfl) | rfl
     ·exact fx e ag'
     ·exact ai
     ·exact hA
    ·simp only;rw[B2,B2,sG,<-oj,jr];rw[show decide (0<(i:Int))=false from bg];simp
    ·simp only;rw[sF,sF];omega
    ·simp only;rw[sF,sF];omega
   ·have dP:t.ns[j].ao.length<=i:=by simp at af;omega
    have jr:=PG (aB:=aB) ai (w:=w) dP;have kf:=KY t.ns[j];refine aJ.mk _ (dj (T:=88) (b:=b6) (cs:=t.ns[j].cells) (k:=0) (n:=9) am (bJ rfl)) ?_;refine a9.mk [] (u.M g++[⟨b6,.cells t.ns[j].cells.toArray 88 (0,0)⟩,⟨c9,.cells aR.toArray 378 (0,0)⟩]) _ (.refl _) (PB hY.c hY.p hY.s rF sr) ?_;rintro v Ho qA -⟨rfl,rfl,rfl⟩;refine a9.mk (u.M g) [⟨b6,.cells t.ns[j].cells.toArray 88 (0,0)⟩,⟨c9,.cells aR.toArray 378 (0,0)⟩] _ am (uP g hu _ LE) ?_;rintro v Xr Xs -⟨rfl,rfl,a,a8,lJ,rfl⟩;have Xt:a.cE.length<=2412*t.ns.length+2410:=by rw[lJ,ct];show _+(pX t.ns[j]).length<=_;omega
    refine aJ.mk [.bool w] (nR (b:=c9) (cs:=aR) (T:=378) gt El) ?_;refine aS.mk (λhw=>?_) (λhw=>?_)
    ·subst hw;refine a9.mk (a.M g) [⟨b6,.cells t.ns[j].cells.toArray 88 (0,0)⟩,⟨c9,.cells aR.toArray 378 (0,0)⟩] _ am (pT g a8 41 Z) ?_;rintro v Xu Xv -⟨rfl,rfl,c,ar,l1,rfl⟩;refine a3.mk (((n-1:Nat)):Int) nV ?_;refine j7.mk 0 (n-1) rfl rfl (dh _) i6 ?_;refine aS.mk (λbg=>?_) (λbg=>?_)
     ·have gU:0<n-1:=by simp at bg;omega
      refine⟨(g,c,⟨some c9,n-1,fv,aR⟩,ia,_),aK _ ⟨mI,ar,⟨?_,(λh=>ci),λb2 _=>⟨dN,i6,l6,?_⟩⟩,?_,λe he=>fx e ag',?_,?_⟩ ?_,.perm (M1:=[⟨b6,.cells t.ns[j].cells.toArray 88 (0,0)⟩]++(⟨c9,.cells aR.toArray 378 (0,0)⟩::c.M g)) (eM (l₂:=[_,_])) (.sub (m4 _ _) .refl),e2,.cons rfl .nil⟩;·exact gD
      ·show aR.take ((n-1)*3)=_;rw[nS,<-gD];exact sw rfl
      ·intro h;simp only at h;rw[h]at gJ;simp at gJ;omega
      ·simp only;rw[l1,lJ,sG,<-oj,jr];simp[strOf]
      ·simp only;omega
      ·simp only[oi];omega
     ·have gU:n-1=0:=by simp at bg;omega
      have u3:ia=[]:=iB Z;have o7:c.cE=k6 aB t.ns t.bp:=by rw[l1,lJ,sG,<-oj,jr,u3];simp[u0,strOf]
      refine a9.mk (c.M g) [⟨b6,.cells t.ns[j].cells.toArray 88 (0,0)⟩,⟨c9,.cells aR.toArray 378 (0,0)⟩] _ am (xZ g ar at8) ?_;rintro v Hp Hq -⟨rfl,rfl,rfl⟩;refine⟨_,_,.sub (eY _) .refl,?_,mI,rfl⟩;rw[o7];rfl
    ·subst hw;refine a3.mk (((n-1:Nat)):Int) nV ?_;refine j7.mk 0 (n-1) rfl rfl (dh _) i6 ?_;refine aS.mk (λbg=>?_) (λbg=>?_)
     ·have gU:0<n-1:=by simp at bg;omega
      refine⟨(g,a,⟨some c9,n-1,fv,aR⟩,ia,_),aK _ ⟨mI,a8,⟨?_,(λh=>ci),λb2 _=>⟨dN,i6,l6,?_⟩⟩,?_,λe he=>fx e ag',?_,?_⟩ ?_,.perm (M1:=[⟨b6,.cells t.ns[j].cells.toArray 88 (0,0)⟩]++(⟨c9,.cells aR.toArray 378 (0,0)⟩::a.M g)) (eM (l₂:=[_,_])) (.sub (m4 _ _) .refl),e2,.cons rfl .nil⟩;·exact gD
      ·show aR.take ((n-1)*3)=_;rw[nS,<-gD];exact sw rfl
      ·intro h;simp only at h;rw[h]at gJ;simp at gJ;omega
      ·simp only;rw[lJ,sG,<-oj,jr];simp[strOf]
      ·simp only;omega
      ·simp only[oi];omega
     ·have gU:n-1=0:=by simp at bg;omega
      have u3:ia=[]:=iB Z;have o7:a.cE=k6 aB t.ns t.bp:=by rw[lJ,sG,<-oj,jr,u3];simp[u0,strOf]
      refine a9.mk (a.M g) [⟨b6,.cells t.ns[j].cells.toArray 88 (0,0)⟩,⟨c9,.cells aR.toArray 378 (0,0)⟩] _ am (xZ g a8 at8) ?_;rintro v Hp Hq -⟨rfl,rfl,rfl⟩;refine⟨_,_,.sub (eY _) .refl,?_,mI,rfl⟩;rw[o7];rfl
 ·have awx:x.cE=x.cE++o5 aB t.ns (j,i,w):=by simp only[o5,aa,cw,dE]
  have hY:=bm.mono bo;have nW:=au.mono bo;have rF:=nW.ns t.ns[j] (bD ai);have Hn:∀ {k m:Nat},k+m<=9->cG I1 (⟨b6,.cells t.ns[j].cells.toArray 88 (0,0)⟩::⟨c9,.cells aR.toArray 378 (0,0)⟩::x.M g) ((⟨b6,0,none⟩:Addr).add k) m ((t.ns[j].cells.drop k).take m):=λh=>dj (T:=88) am h;refine cN.draw aT rfl rfl rfl ?_;refine aJ.mk [.int .i64 i] (nR (b:=c9) (cs:=aR) (T:=378) gt qF) ?_;refine aJ.mk _ (Hn bv) ?_;refine aS.mk (λaf=>?_) (λaf=>?_)
  ·have dP:i<t.ns[j].aA:=by simpa using af
   have rG:i<t.ns[j].ao.length:=by omega
   obtain⟨fq,eN,eL⟩:=rF.a'.one dP rG;have eR:=jX ag j ai _ (bD rG);obtain⟨q,x6⟩:=dZ eR.1;have hA:q<t.ns.length:=by omega
   have o6:q<t.n:=by omega
   obtain⟨rH,x7,x8⟩:=nW.a'.row ak.cq o6 hA;have x9:∀ M,cG I1 M ((rH.add (q*9)).add 0) 1 [.int .u8 t.ns[q].k]:=λM=>(x8 M).part (k:=0) (m:=1) bv;have u2:iE t.ns ((q:Nat):Int)=t.ns[q].k:=by simp[iE,bP,hA]
   have jr:=PE (aB:=aB) ag ai (w:=w) rG;have zX:=PF ag ai (w:=w) (w':=hK t.ns[j].k t.ns[q].k) rG;rw[x6]at jr zX;simp only[B0,h2]at jr zX;rw[u2]at jr;have gA:IntKind.i64.wrap ((i:Int)+1)=((i+1:Nat):Int):=by have:=rF.a'.cap;rw[wrap_i64 ⟨Z,Z⟩];omega
   have de:cp aR ((n-1)*3+1) [.int .i64 ((i+1:Nat):Int)]=pY ia++([.int .i64 j,.int .i64 ((i+1:Nat):Int),.bool w]++bq):=by rw[nS,<-gD];exact PJ _ _ _ _ _ _
   have B7:aO.ok ⟨some c9,n,fv,cp aR ((n-1)*3+1) [.int .i64 ((i+1:Nat):Int)]⟩ 3 (pY (ia++[(j,i+1,w)])):=by
    rw[de,B4];refine⟨ST,(λh=>ci),λb2 _=>⟨?_,na,l6,?_⟩⟩;·simp only;rw[<-dN,nS];simp
    ·simp only;rw[<-ej];refine sw ?_;simp only[ct,ey,hl];omega
   refine aJ.mk [.int .i64 i] (nR (b:=c9) (cs:=aR) (T:=378) gt qF) ?_;refine aS.mk (λbg=>?_) (λbg=>ay0);refine aJ.mk [.int .u8 t.ns[j].k] (dj (T:=88) (b:=b6) (cs:=t.ns[j].cells) (k:=0) (n:=1) (.head _) (bJ rfl)) ?_;refine cj.mk t.ns[j].k.toNat (by have:=rF.k;omega) (by have:=sr.k;have:=rF.k;omega) ?_;refine aJ.mk _ (hY.s.rd _ (by have:=sr.k;have:=rF.k;show t.ns[j].k.toNat*3+1<30;omega)) ?_;refine a9.mk (x.M g) [⟨b6,.cells t.ns[j].cells.toArray 88 (0,0)⟩,⟨c9,.cells aR.toArray 378 (0,0)⟩] _ (eM (l₁:=[_,_])) (uP g Hm _ (by have:=Hj (t.ns[j].k.toNat*3+1);show _+(sE (t.ns[j].k.toNat*3+1)).length<=_;omega)) ?_;rintro v qz ru -⟨rfl,rfl,z,u4,aiK,rfl⟩;have tw:z.cE=x.cE++Ej t.ns[j]:=aiK;refine cN.draw aT rfl rfl rfl ?_;refine aJ.mk _ (dj (T:=88) (b:=b6) (cs:=t.ns[j].cells) (k:=8) (n:=1) am (bJ rfl)) ?_;refine aJ.mk [.int .i64 i] (nR (b:=c9) (cs:=aR) (T:=378) gt qF) ?_;refine bi.mk fq i eN rfl dP ?_;refine aJ.mk [.int .i64 (q:Nat)] WF ?_;refine aJ.mk [.int .i64 i] (nR (b:=c9) (cs:=aR) (T:=378) gt qF) ?_;refine a3.mk ((i+1:Nat):Int) gA ?_;refine b'.zS (z.M g++[⟨b6,.cells t.ns[j].cells.toArray 88 (0,0)⟩]) [] aR.toArray 378 gt ?_ rfl ?_;·simp only[q6];show(n-1)*3+1+1<=_;omega
   refine cN.draw aT rfl rfl rfl ?_;refine aJ.mk [.int .u8 t.ns[j].k] (dj (T:=88) (b:=b6) (cs:=t.ns[j].cells) (k:=0) (n:=1) am (bJ rfl)) ?_;refine bi.mk rH q x7 rfl o6 ?_;refine aJ.mk [.int .u8 t.ns[q].k] (x9 _) ?_;refine er.mk _ (Po t.ns[j].k t.ns[q].k) ?_;rintro v Ho qA -⟨rfl,rfl,rfl⟩;refine bN.mk λb9 kI x'=>?_;refine bz.append aT rfl am (e:=378) rfl rfl rfl ⟨some c9,n,fv,cp aR ((n-1)*3+1) [.int .i64 ((i+1:Nat):Int)]⟩ (xs:=pY (ia++[(j,i+1,w)])) B7 rfl (m:=1) rfl (cb:=nU (q,0,hK t.ns[j].k t.ns[q].k)) bv (dj (b:=b9) (cs:=nU (q,0,hK t.ns[j].k t.ns[q].k)) (k:=0) (n:=3) (T:=378) (.head _) (bJ rfl)) rfl (Mr:=⟨b9,.cells (nU (q,0,hK t.ns[j].k t.ns[q].k)).toArray 378 (0,0)⟩::(z.M g++[⟨b6,.cells t.ns[j].cells.toArray 88 (0,0)⟩])) (by exact eM (l₁:=(⟨b9,.cells (nU (q,0,hK t.ns[j].k t.ns[q].k)).toArray 378 (0,0)⟩:aD)::(z.M g++[⟨b6,.cells t.ns[j].cells.toArray 88 (0,0)⟩])) (l₂:=[⟨c9,.cells (cp aR ((n-1)*3+1) [.int .i64 ((i+1:Nat):Int)]).toArray 378 (0,0)⟩])) IO ayV ?_;intro et c' kl ee eO eS jq;refine⟨(g,z,⟨some et,n+1,c',kl⟩,ia++[(j,i+1,w)]++[(q,0,hK t.ns[j].k t.ns[q].k)],_),aK _ ⟨bo,u4,⟨?_,(λh=>ci),λb2 _=>⟨ee,eO,eS,?_⟩⟩,am,?_,?_,?_⟩ ?_,.perm (M1:=[⟨b9,.cells (nU (q,0,hK t.ns[j].k t.ns[q].k)).toArray 378 (0,0)⟩,⟨b6,.cells t.ns[j].cells.toArray 88 (0,0)⟩]++(⟨et,.cells kl.toArray 378 (0,0)⟩::z.M g)) (PI _ _ _ _) (.sub (m4 _ _) .refl),e2,.cons rfl .nil⟩;·show _=(n+1)*3;rw[Hk];simp;omega
   ·show kl.take ((n+1)*3)=_;rw[B4 (ia++[(j,i+1,w)])];exact jq
   ·intro e he;simp only[cW,ep]at he;rcases he with(he | rfl) | rfl
    ·exact fx e ag'
    ·exact ai
    ·exact hA
   ·simp only;rw[B2,B2,tw,<-oj,jr];rw[show decide (0<(i:Int))=true from bg,show o5 aB t.ns (j,i,w)=[]from by simp only[o5,aa,cw]];simp
   ·simp only;rw[sF,sF];omega
   ·simp only;rw[sF,sF];omega
  ·have dP:t.ns[j].ao.length<=i:=by simp at af;omega
   have aiL:=PG (aB:=aB) ai (w:=w) dP;have jr:uZ aB t.ns (j,i,w)=pX t.ns[j]++(bif w then [41]else []):=by rw[aiL];simp only[o5,aa,cw,hW]
   have kf:=KY t.ns[j];refine aJ.mk _ (dj (T:=88) (b:=b6) (cs:=t.ns[j].cells) (k:=0) (n:=9) (.head _) (bJ rfl)) ?_;refine a9.mk [] (⟨b6,.cells t.ns[j].cells.toArray 88 (0,0)⟩::⟨c9,.cells aR.toArray 378 (0,0)⟩::x.M g) _ (.refl _) (PB hY.c hY.p hY.s rF sr) ?_;rintro v Ho qA -⟨rfl,rfl,rfl⟩;refine a9.mk (x.M g) [⟨b6,.cells t.ns[j].cells.toArray 88 (0,0)⟩,⟨c9,.cells aR.toArray 378 (0,0)⟩] _ (eM (l₁:=[_,_])) (uP g Hm _ LE) ?_;rintro v Xr Xs -⟨rfl,rfl,a,a8,lJ,rfl⟩;have Xt:a.cE.length<=2412*t.ns.length+2410:=by rw[lJ,ct];show _+(pX t.ns[j]).length<=_;omega
   refine aJ.mk [.bool w] (nR (b:=c9) (cs:=aR) (T:=378) gt El) ?_;refine aS.mk (λhw=>?_) (λhw=>?_)
   ·subst hw;refine a9.mk (a.M g) [⟨b6,.cells t.ns[j].cells.toArray 88 (0,0)⟩,⟨c9,.cells aR.toArray 378 (0,0)⟩] _ am (pT g a8 41 Z) ?_;rintro v Xu Xv -⟨rfl,rfl,c,ar,l1,rfl⟩;refine a3.mk (((n-1:Nat)):Int) nV ?_;refine j7.mk 0 (n-1) rfl rfl (dh _) i6 ?_;refine aS.mk (λbg=>?_) (λbg=>?_)
    ·have gU:0<n-1:=by simp at bg;omega
     refine⟨(g,c,⟨some c9,n-1,fv,aR⟩,ia,_),aK _ ⟨bo,ar,⟨?_,(λh=>ci),λb2 _=>⟨dN,i6,l6,?_⟩⟩,?_,λe he=>fx e ag',?_,?_⟩ ?_,.perm (M1:=[⟨b6,.cells t.ns[j].cells.toArray 88 (0,0)⟩]++(⟨c9,.cells aR.toArray 378 (0,0)⟩::c.M g)) (eM (l₂:=[_,_])) (.sub (m4 _ _) .refl),e2,.cons rfl .nil⟩;·exact gD
     ·show aR.take ((n-1)*3)=_;rw[nS,<-gD];exact sw rfl
     ·intro h;simp only at h;rw[h]at gJ;simp at gJ;omega
     ·simp only;rw[l1,lJ,<-oj,jr];simp[strOf]
     ·simp only;omega
     ·simp only[oi];omega
    ·have gU:n-1=0:=by simp at bg;omega
     have u3:ia=[]:=iB Z;have o7:c.cE=k6 aB t.ns t.bp:=by rw[l1,lJ,<-oj,jr,u3];simp[u0,strOf]
     refine a9.mk (c.M g) [⟨b6,.cells t.ns[j].cells.toArray 88 (0,0)⟩,⟨c9,.cells aR.toArray 378 (0,0)⟩] _ am (xZ g ar at8) ?_;rintro v Hp Hq -⟨rfl,rfl,rfl⟩;refine⟨_,_,.sub (eY _) .refl,?_,bo,rfl⟩;rw[o7];rfl
   ·subst hw;refine a3.mk (((n-1:Nat)):Int) nV ?_;refine j7.mk 0 (n-1) rfl rfl (dh _) i6 ?_;refine aS.mk (λbg=>?_) (λbg=>?_)
    ·have gU:0<n-1:=by simp at bg;omega
     refine⟨(g,a,⟨some c9,n-1,fv,aR⟩,ia,_),aK _ ⟨bo,a8,⟨?_,(λh=>ci),λb2 _=>⟨dN,i6,l6,?_⟩⟩,?_,λe he=>fx e ag',?_,?_⟩ ?_,.perm (M1:=[⟨b6,.cells t.ns[j].cells.toArray 88 (0,0)⟩]++(⟨c9,.cells aR.toArray 378 (0,0)⟩::a.M g)) (eM (l₂:=[_,_])) (.sub (m4 _ _) .refl),e2,.cons rfl .nil⟩;·exact gD
     ·show aR.take ((n-1)*3)=_;rw[nS,<-gD];exact sw rfl
     ·intro h;simp only at h;rw[h]at gJ;simp at gJ;omega
     ·simp only;rw[lJ,<-oj,jr];simp[strOf]
     ·simp only;omega
     ·simp only[oi];omega
    ·have gU:n-1=0:=by simp at bg;omega
     have u3:ia=[]:=iB Z;have o7:a.cE=k6 aB t.ns t.bp:=by rw[lJ,<-oj,jr,u3];simp[u0,strOf]
     refine a9.mk (a.M g) [⟨b6,.cells t.ns[j].cells.toArray 88 (0,0)⟩,⟨c9,.cells aR.toArray 378 (0,0)⟩] _ am (xZ g a8 at8) ?_;rintro v Hp Hq -⟨rfl,rfl,rfl⟩;refine⟨_,_,.sub (eY _) .refl,?_,bo,rfl⟩;rw[o7];rfl
def Xw{c:Code}{K:ka}{t1 t2 t3:Nat}{a b d:dK}{e:Option (List Value)}(h:∀ G B5,V X c (g0 (g0 (g0 G t3 d) t2 b) t1 a) (jC B5 t1 e) I M K)
  (aa:F t1=a) (ab:F t2=b) (al:F t3=d) (aL:C t1=e):V X c F C I M K:=by
 have:=h F C;rwa [PH al,PH ab,PH aa,aiH aL]at this
def aiM(bm:fr I aB)(au:t.ok I)(aE:t.n<=1024):Spec Tryz.prog 343 [t.val] I [] λr I' M'=>r=.string (strOf (nT aB t))/\(∀ b o,I b=some o->I' b=some o)/\M'=[]:=by
 refine bR [3] aT Tryz.func343 rfl rfl rfl ?_;intro B ax;have pM:=au.n;cases ag:right t with
 |true=>
  have PM:nT aB t=k6 aB t.ns t.bp:=by simp[nT,ag]
  rw[PM];have pS:=kh ag;obtain⟨r,og⟩:=dZ pS.1;have dw:r<t.ns.length:=by omega
  obtain⟨ns,zY,ya,zZ,bp⟩:=t;simp only at og;subst og;have og:(⟨ns,zY,ya,zZ,Int.ofNat r⟩:bf).bp=Int.ofNat r:=rfl;refine cN.scope aT rfl (λy:Nat×Hl=>Xn ⟨ns,zY,ya,zZ,Int.ofNat r⟩ y.1 y.2) (λ_=>0) (λy=>K1 I aB ⟨ns,zY,ya,zZ,Int.ofNat r⟩ y.2) (λy=>wI ns y.2.2.2.1) (λ_=>Xm (K0 (Tryz.f343.body.getD .skip)) 0) (λ_ _=>⟨d4,d4⟩) ?_ ?_
  ·refine a9.mk [] [] _ (.refl _) (o0 bm.c au) ?_;rintro v I' M' -⟨rfl,rfl,rfl⟩;rw[ag];refine aS.mk (λh=>ci) (λ_=>?_);refine bN.mk λg az Ea=>?_;refine bN.mk λgg B8 awy=>?_;refine Xw (t1:=1) (t2:=3) (t3:=4) (λG B5=>Xo bm au ag aE (p:=λl y=>K1 _ aB ⟨ns,zY,ya,zZ,Int.ofNat r⟩ y.2/\0=l) (g:=g) (gC.new,⟨some gg,1,1,nU (r,0,false)⟩,[(r,0,false)],I') ?_ (λy aF _=>⟨aF,rfl⟩) B ax G B5) rfl rfl rfl rfl;refine⟨λ_ _ h=>h,gC.KL,⟨rfl,(λh=>ci),λb2 _=>⟨rfl,cf _,i5,rfl⟩⟩,am,?_,?_,?_⟩
   ·intro e he;simp only[ep]at he;subst he;exact dw
   ·simp only[u0,zU,iS,KT,dE];have dW:=Xk (aB:=aB) ag dw false;simp only at dW |-;rw[dW];simp[gC.new,paren]
   ·have aa:=Xl ag dw false;have ab:=aiG ag;simp only[B0]at aa ab;simp only[wI,ch,hd,hx,x5];omega
  ·rintro⟨g,x⟩ae;refine Xw (t1:=1) (t2:=3) (t3:=4) (λG B5=>Xo bm au ag aE (g:=g) x ae (λy aF aV=>⟨⟨aF,rfl⟩,aV⟩) B ax G B5) rfl rfl rfl rfl
 |false=>
  have PM:nT aB t=[]:=by simp[nT,ag]
  rw[PM];refine cN.scope aT rfl (ι:=Empty) (λe=>nomatch e) (λe=>nomatch e) (λe=>nomatch e) (λe=>nomatch e) (λ_=>.skip) (λe=>nomatch e) ?_ (λe=>nomatch e);refine a9.mk [] [] _ (.refl _) (o0 bm.c au) ?_;rintro v I' M' -⟨rfl,rfl,rfl⟩;rw[ag];refine aS.mk (λ_=>?_) (λh=>ci);exact⟨_,_,.refl,rfl,λ_ _ h=>h,rfl⟩
def a4.val(d:a4):Value:=.agg #[.string d.name,.slice d.t.a d.t.n d.t.c,.int .i64 d.t.bp]
def qG(aB:List Int)(d:a4):List UInt8:=
 bif decide (strOf (nT aB d.t)=⟨#[]⟩) || !kF d.name then []else d.name.data.toList++[32,60,45,32]++nT aB d.t++[10]
def Xx{s:ByteArray}(h:kF s=true):s.size<=32:=by unfold kF at h;simp only[cH,gN]at h;omega
def aiN(aB:List Int)(d:a4):(qG aB d).length<=37+2412*d.t.ns.length:=by
 have aa:=Xg aB d.t;unfold qG;cases ar:(decide (strOf (nT aB d.t)=⟨#[]⟩) || !kF d.name)with
 |true=>simp| false=>simp only[rq,Bool.not_eq_false']at ar;have ab:=Xx ar.2;have al:d.name.data.toList.length=d.name.size:=rfl;simp only[cw,ct,ey,hl];omega
def aiO(bm:fr I aB){d:a4}(aj:d.ok I)(aE:d.t.n<=1024):Spec Tryz.prog 327 [d.val] I [] λr I' M'=>r=.string (strOf (qG aB d))/\(∀ b o,I b=some o->I' b=some o)/\M'=[]:=by
 refine bR [] aT Tryz.func327 rfl rfl rfl ?_;intro B ax;refine a9.mk [] [] _ (.refl _) (aiM bm aj.t aE) ?_;rintro v I1 M1 -⟨rfl,di,rfl⟩;refine bZ.mk (λaa=>?_) (λaa=>?_)
 ·refine a9.mk [] [] _ (.refl _) (Pd _ d.name) ?_;rintro v I' M' -⟨rfl,rfl,rfl⟩;refine aS.mk (λab=>?_) (λab=>?_)
  ·refine⟨_,_,.refl,?_,di,rfl⟩;have:qG aB d=[]:=by unfold qG;rw[aa,ab];rfl
   rw[this];rfl
  ·have hm:kF d.name=true:=by simpa using ab
   have ab:=Xx hm;have al:d.name.data.toList.length=d.name.size:=rfl;have aL:=Xg aB d.t;have bB:=aj.t.n;refine fm.concat (a:=d.name) (b:=strOf [32,60,45,32]) (by show _+4<=_;omega) ?_;refine fm.concat (a:=d.name++strOf [32,60,45,32]) (b:=strOf (nT aB d.t)) (by rw[KR];show _+4+(nT aB d.t).length<=_;omega) ?_;refine fm.concat (a:=d.name++strOf [32,60,45,32]++strOf (nT aB d.t)) (b:=strOf [10]) (by rw[KR,KR];show _+4+(nT aB d.t).length+1<=_;omega) ?_;refine⟨_,_,.refl,?_,di,rfl⟩;refine congrArg Value.string (Ed ?_);rw[qG,aa,hm];simp[strOf]
 ·refine⟨_,_,.refl,?_,di,rfl⟩;have:qG aB d=[]:=by unfold qG;rw[aa];rfl
  rw[this];rfl
def qH(aB:List Int):List a4->List UInt8->List UInt8
 |[],a7=>a7| d::ds,a7=>bif decide (strOf (qG aB d)=⟨#[]⟩)then []else qH aB ds (a7++qG aB d)
def aiP(bm:fr I aB){g:cR}(az:g.ok I)(aE:g.n<=64)(au:∀ d∈g.ds,d.t.n<=1024):Spec Tryz.prog 292 [g.val] I [] λr I' M'=>r=.string (strOf (qH aB g.ds []))/\(∀ b o,I b=some o->I' b=some o)/\M'=[]:=by
 refine bR [3] aT Tryz.func292 rfl rfl rfl ?_;intro B ax;have ib:=az.n;have u1:∀ d∈g.ds,d.t.ns.length<=1024:=λd aj=>by rw[(az.ds d aj).t.n];exact au d aj
 refine bN.mk λb ah uO=>?_;refine c2.inv (ι:=Nat×gC×aI) (λp=>{ bn:=[(3,.val (ptr b)),(8,.val (.slice g.a g.n g.c)),(9,.val (.int .i64 g.n)),(10,.val (.int .i64 p.1))],cm:=p.2.2,cK:=p.2.1.M b }) (λp=>p.1<=g.n/\p.2.1.ok/\(∀ b o,I b=some o->p.2.2 b=some o)/\p.2.1.cE.length<=2500000*p.1/\qH aB g.ds []=qH aB (g.ds.drop p.1) p.2.1.cE) (λp=>g.n-p.1) ?_ ?_
 ·exact⟨(0,gC.new,I),⟨am,gC.KL,λ_ _ h=>h,by simp[gC.new],rfl⟩,.refl,dS,.nil⟩
 ·rintro⟨i,x,I1⟩⟨hi,ae,di,kk,kH⟩;simp only at hi ae di kk kH;refine aS.mk (λh=>?_) (λh=>?_)
  ·have aV:i<g.n:=by simpa using h
   have cF:i<g.ds.length:=by omega
   have rC:=az.mono di;obtain⟨ad,bt,bj⟩:=rC.a'.row a4.cq aV cF;have gr:g.ds[i]∈g.ds:=bD cF;have z0:=aiN aB g.ds[i];have dW:=u1 _ gr;have l7:g.ds.drop i=g.ds[i]::g.ds.drop (i+1):=e9 cF;refine bi.mk ad i bt rfl aV ?_;refine aJ.mk _ (bj _) ?_;refine a9.mk [] (x.M b) _ (.refl _) (aiO (bm.mono di) (rC.ds _ gr) (au _ gr)) ?_;rintro v ed dp -⟨rfl,gq,rfl⟩;refine aS.mk (λaa=>?_) (λaa=>?_);·refine⟨_,_,.sub (eY _) .refl,?_,λb o h=>gq _ _ (di _ _ h),rfl⟩;rw[kH,l7,qH,aa];rfl
   ·refine a9.mk (x.M b) [] _ am (uP b ae _ (by show _+(qG aB g.ds[i]).length<=_;omega)) ?_;rintro v I' M' -⟨rfl,rfl,y,aF,g',rfl⟩;have Xy:y.cE=x.cE++qG aB g.ds[i]:=g';have gA:IntKind.i64.wrap ((i:Int)+1)=((i+1:Nat):Int):=by rw[wrap_i64 ⟨Z,Z⟩];omega
    refine a3.mk _ gA ?_;refine⟨(i+1,y,_),⟨⟨ce,aF,λb o h=>gq _ _ (di _ _ h),?_,?_⟩,ce⟩,.perm am .refl,dS,.nil⟩;·simp only;rw[Xy,ct];omega
    ·simp only;rw[kH,l7,qH,aa,Xy];rfl
  ·have cM:g.n<=i:=by simpa using h
   have jE:g.ds.drop i=[]:=l5 Z;refine a9.mk (x.M b) [] _ am (xZ b ae Z) ?_;rintro v I' M' -⟨rfl,rfl,rfl⟩;refine⟨_,_,.refl,?_,di,am⟩;rw[kH,jE];rfl
def aiQ(bm:fr I aB){g:cR}(az:g.ok I)(aE:g.n<=64)(au:∀ d∈g.ds,d.t.n<=1024):Spec Tryz.prog 222 [g.val] I [] λr I' M'=>r=.int .i64 ((qH aB g.ds []).length:Int)/\(∀ b o,I b=some o->I' b=some o)/\M'=[]:=by refine bR [] aT Tryz.func222 rfl rfl rfl ?_;intro B ax;refine a9.mk [] [] _ (.refl _) (aiP bm az aE au) ?_;rintro v I' M' -⟨rfl,bG,rfl⟩;exact⟨_,_,.refl,rfl,bG,rfl⟩
def kJ(ns:List ak)(kind:Int):List Int->Bool
 |[]=>true| k::ks=>bif decide (iE ns k=kind)||(decide (iE ns k=0)&&decide (kind=4))then false else kJ ns kind ks
def k7(ns:List ak):List ak->Bool
 |[]=>true| d::ds=>bif !decide (d.k=4) && !decide (d.k=5)then k7 ns ds else bif kJ ns d.k d.ao then k7 ns ds else false
def normal(t:bf):Bool:=right t&&k7 t.ns t.ns
def cC(h:i<=140737488355328):IntKind.i64.wrap ((i:Int)+1)=((i+1:Nat):Int):=by rw[wrap_i64 ⟨Z,Z⟩];omega
def aiR(ar:nd I)(au:t.ok I):Spec Tryz.prog 147 [t.val] I [] (λv I' M'=>v=.bool (normal t)/\I'=I/\M'=[]):=by
 refine bR [] aT Tryz.func147 rfl rfl rfl ?_;intro B ax;have aE:=au.n;have g8:=au.a'.cap;refine a9.mk [] [] _ (.refl _) (o0 ar au) ?_;rintro v I' M' -⟨rfl,rfl,rfl⟩;refine aS.mk (λh=>?_) (λh=>?_)
 ·refine⟨_,_,.refl,?_,rfl,rfl⟩;simp[normal,show right t=false by simpa using h]
 ·have ag:right t=true:=by simpa using h
  have eV:normal t=k7 t.ns t.ns:=by simp[normal,ag]
  rw[eV];refine c2.inv (ι:=Nat) (λi=>{ bn:=[(1,.ref 1 0),(12,.val (.slice t.a t.n t.c)),(13,.val (.int .i64 t.n)),(14,.val (.int .i64 i))],cl:=[(1,t.cells)],cm:=I' }) (λi=>i<=t.n/\k7 t.ns t.ns=k7 t.ns (t.ns.drop i)) (λi=>t.n-i) ?_ ?_;·exact⟨0,⟨am,rfl⟩,.refl,dS,.cons rfl .nil⟩
  ·rintro i⟨hi,fx⟩;refine aS.mk (λh=>?_) (λh=>?_)
   ·have aV:i<t.n:=by simpa using h
    have cF:i<t.ns.length:=by omega
    obtain⟨ad,bt,bj⟩:=au.a'.row ak.cq aV cF;have gB:=au.ns t.ns[i] (bD cF);have eF:=gB.aA;have l7:t.ns.drop i=t.ns[i]::t.ns.drop (i+1):=e9 cF;refine bi.mk ad i bt rfl aV ?_;refine aJ.mk _ (bj _) ?_;refine bZ.mk (λeW=>?_) (λeW=>?_)
    ·refine aS.mk (λc8=>?_) (λc8=>?_)
     ·refine a3.mk _ (cC (i:=i) Z) ?_;refine⟨i+1,⟨⟨Z,?_⟩,Z⟩,.refl,dS,.cons rfl .nil⟩;rw[fx,l7,k7,eW,c8];rfl
     ·have iX:k7 t.ns t.ns=bif kJ t.ns t.ns[i].k t.ns[i].ao then k7 t.ns (t.ns.drop (i+1))else false:=by rw[fx,l7,k7,eW,c8];rfl
      refine c2.inv (ι:=Nat) (λj=>{ bn:=[(1,.ref 1 0),(4,.ref 4 0),(12,.val (.slice t.a t.n t.c)),(13,.val (.int .i64 t.n)),(14,.val (.int .i64 i)),(27,.val (.slice t.ns[i].bX t.ns[i].aA t.ns[i].b5)),(28,.val (.int .i64 t.ns[i].aA)),(29,.val (.int .i64 j))],cl:=[(1,t.cells),(4,t.ns[i].cells)],cm:=I' }) (λj=>j<=t.ns[i].aA/\kJ t.ns t.ns[i].k t.ns[i].ao=kJ t.ns t.ns[i].k (t.ns[i].ao.drop j)) (λj=>t.ns[i].aA-j) ?_ ?_;·exact⟨0,⟨am,rfl⟩,.refl,kd,.cons rfl (.cons rfl .nil)⟩
      ·rintro j⟨ai,nf⟩;refine aS.mk (λh=>?_) (λh=>?_)
       ·have fY:j<t.ns[i].aA:=by simpa using h
        have o1:j<t.ns[i].ao.length:=by omega
        obtain⟨fq,eN,eL⟩:=gB.a'.one fY o1;have iV:t.ns[i].ao.drop j=t.ns[i].ao[j]::t.ns[i].ao.drop (j+1):=e9 o1;have eR:=jX ag i cF _ (bD o1);generalize gp:t.ns[i].ao[j]=Xz at *;obtain⟨q,rfl⟩:=dZ eR.1;have hA:q<t.ns.length:=by omega
        have o6:q<t.n:=by omega
        obtain⟨rH,x7,x8⟩:=au.a'.row ak.cq o6 hA;have x9:∀ M,cG I' M ((rH.add (q*9)).add 0) 1 [.int .u8 t.ns[q].k]:=λM=>(x8 M).part (k:=0) (m:=1) bv;have u2:iE t.ns ((q:Nat):Int)=t.ns[q].k:=by simp[iE,bP,hA]
        have bad:(decide (t.ns[q].k=t.ns[i].k)||(decide (t.ns[q].k=0)&&decide (t.ns[i].k=4)))=true->k7 t.ns t.ns=false:=λah=>by rw[iX,nf,iV,kJ,u2,ah];rfl
        have B9:(decide (t.ns[q].k=t.ns[i].k)||(decide (t.ns[q].k=0)&&decide (t.ns[i].k=4)))=false->kJ t.ns t.ns[i].k t.ns[i].ao=kJ t.ns t.ns[i].k (t.ns[i].ao.drop (j+1)):=λah=>by rw[nf,iV,kJ,u2,ah];rfl
        have gA:=cC (i:=j) am';refine bi.mk fq j eN rfl fY ?_;refine aJ.mk _ (eL _) ?_;refine bi.mk rH q x7 rfl o6 ?_;refine aJ.mk _ (x9 _) ?_;refine bZ.mk (λfg=>?_) (λfg=>?_)
        ·refine bZ.mk (λe1=>?_) (λe1=>?_)
         ·refine aS.mk (λjs=>?_) (λjs=>?_)
          ·refine⟨_,_,.refl,?_,rfl,rfl⟩;rw[bad ayR]
          ·refine a3.mk _ gA ?_;exact⟨j+1,⟨⟨Z,B9 ayR⟩,Z⟩,.refl,kd,.cons rfl (.cons rfl .nil)⟩
         ·refine a3.mk _ gA ?_;exact⟨j+1,⟨⟨Z,B9 (by rw[fg,e1];rfl)⟩,Z⟩,.refl,kd,.cons rfl (.cons rfl .nil)⟩
        ·refine⟨_,_,.refl,?_,rfl,rfl⟩;rw[bad (by rw[fg];rfl)]
       ·have BS:t.ns[i].ao.drop j=[]:=l5 (by simp at h;omega);refine a3.mk _ (cC (i:=i) Z) ?_;refine⟨i+1,⟨⟨Z,?_⟩,Z⟩,.refl,dS,.cons rfl .nil⟩;rw[iX,nf,BS];rfl
    ·have iX:k7 t.ns t.ns=bif kJ t.ns t.ns[i].k t.ns[i].ao then k7 t.ns (t.ns.drop (i+1))else false:=by rw[fx,l7,k7,eW];rfl
     refine c2.inv (ι:=Nat) (λj=>{ bn:=[(1,.ref 1 0),(4,.ref 4 0),(12,.val (.slice t.a t.n t.c)),(13,.val (.int .i64 t.n)),(14,.val (.int .i64 i)),(27,.val (.slice t.ns[i].bX t.ns[i].aA t.ns[i].b5)),(28,.val (.int .i64 t.ns[i].aA)),(29,.val (.int .i64 j))],cl:=[(1,t.cells),(4,t.ns[i].cells)],cm:=I' }) (λj=>j<=t.ns[i].aA/\kJ t.ns t.ns[i].k t.ns[i].ao=kJ t.ns t.ns[i].k (t.ns[i].ao.drop j)) (λj=>t.ns[i].aA-j) ?_ ?_;·exact⟨0,⟨am,rfl⟩,.refl,kd,.cons rfl (.cons rfl .nil)⟩
     ·rintro j⟨ai,nf⟩;refine aS.mk (λh=>?_) (λh=>?_)
      ·have fY:j<t.ns[i].aA:=by simpa using h
       have o1:j<t.ns[i].ao.length:=by omega
       obtain⟨fq,eN,eL⟩:=gB.a'.one fY o1;have iV:t.ns[i].ao.drop j=t.ns[i].ao[j]::t.ns[i].ao.drop (j+1):=e9 o1;have eR:=jX ag i cF _ (bD o1);generalize gp:t.ns[i].ao[j]=Xz at *;obtain⟨q,rfl⟩:=dZ eR.1;have hA:q<t.ns.length:=by omega
       have o6:q<t.n:=by omega
       obtain⟨rH,x7,x8⟩:=au.a'.row ak.cq o6 hA;have x9:∀ M,cG I' M ((rH.add (q*9)).add 0) 1 [.int .u8 t.ns[q].k]:=λM=>(x8 M).part (k:=0) (m:=1) bv;have u2:iE t.ns ((q:Nat):Int)=t.ns[q].k:=by simp[iE,bP,hA]
       have bad:(decide (t.ns[q].k=t.ns[i].k)||(decide (t.ns[q].k=0)&&decide (t.ns[i].k=4)))=true->k7 t.ns t.ns=false:=λah=>by rw[iX,nf,iV,kJ,u2,ah];rfl
       have B9:(decide (t.ns[q].k=t.ns[i].k)||(decide (t.ns[q].k=0)&&decide (t.ns[i].k=4)))=false->kJ t.ns t.ns[i].k t.ns[i].ao=kJ t.ns t.ns[i].k (t.ns[i].ao.drop (j+1)):=λah=>by rw[nf,iV,kJ,u2,ah];rfl
       have gA:=cC (i:=j) am';refine bi.mk fq j eN rfl fY ?_;refine aJ.mk _ (eL _) ?_;refine bi.mk rH q x7 rfl o6 ?_;refine aJ.mk _ (x9 _) ?_;refine bZ.mk (λfg=>?_) (λfg=>?_)
       ·refine bZ.mk (λe1=>?_) (λe1=>?_)
        ·refine aS.mk (λjs=>?_) (λjs=>?_)
         ·refine⟨_,_,.refl,?_,rfl,rfl⟩;rw[bad ayR]
         ·refine a3.mk _ gA ?_;exact⟨j+1,⟨⟨Z,B9 ayR⟩,Z⟩,.refl,kd,.cons rfl (.cons rfl .nil)⟩
        ·refine a3.mk _ gA ?_;exact⟨j+1,⟨⟨Z,B9 (by rw[fg,e1];rfl)⟩,Z⟩,.refl,kd,.cons rfl (.cons rfl .nil)⟩
       ·refine⟨_,_,.refl,?_,rfl,rfl⟩;rw[bad (by rw[fg];rfl)]
      ·have BS:t.ns[i].ao.drop j=[]:=l5 (by simp at h;omega);refine a3.mk _ (cC (i:=i) Z) ?_;refine⟨i+1,⟨⟨Z,?_⟩,Z⟩,.refl,dS,.cons rfl .nil⟩;rw[iX,nf,BS];rfl
   ·have cM:t.n<=i:=by simpa using h
    have jE:t.ns.drop i=[]:=l5 Z;refine⟨_,_,.refl,?_,rfl,rfl⟩;rw[fx,jE];rfl
def sH(t:bf):Nat:=bif right t then t.n else 0
def u5(g:cR):Nat:=(g.ds.map λd=>sH d.t).sum
def XA{α:Type}(f:α->Nat)(m:Nat):∀ (l:List α),(∀ x∈l,f x<=m)->(l.map f).sum<=m*l.length
 |[],_=>by simp
 |x::l,h=>by have aa:=h x am;have ab:=XA f m l λy aF=>h y ayO;simp only[ch,hx,ey,Nat.mul_add];omega
def aiS(ar:nd I){g:cR}(az:g.ok I)(aE:g.n<=64)(au:∀ d∈g.ds,d.t.n<=1024):Spec Tryz.prog 221 [g.val] I [] (λv I' M'=>v=.int .i64 (u5 g:Nat)/\I'=I/\M'=[]):=by
 refine bR [] aT Tryz.func221 rfl rfl rfl ?_;intro B ax;have ib:=az.n;refine c2.inv (ι:=Nat) (λi=>{ bn:=[(3,.val (.int .i64 (((g.ds.take i).map λd=>sH d.t).sum:Nat))),(7,.val (.slice g.a g.n g.c)),(8,.val (.int .i64 g.n)),(9,.val (.int .i64 i))],cm:=I }) (λi=>i<=g.n) (λi=>g.n-i) ?_ ?_
 ·exact⟨0,am,.refl,dS,.nil⟩
 ·intro i hi;refine aS.mk (λh=>?_) (λh=>?_)
  ·have aV:i<g.n:=by simpa using h
   have cF:i<g.ds.length:=by omega
   obtain⟨ad,bt,bj⟩:=az.a'.row a4.cq aV cF;have gr:g.ds[i]∈g.ds:=bD cF;have aw:((g.ds.take i).map λd=>sH d.t).sum<=1024*(g.ds.take i).length:=XA _ 1024 _ λd aj=>by
    have:=au d (uW aj);unfold sH;cases right d.t<;>simp
    omega
   have ay:=zA i g.ds;have gf:sH g.ds[i].t<=1024:=by
    have:=au _ gr;unfold sH;cases right g.ds[i].t<;>simp
    omega
   refine bi.mk ad i bt rfl aV ?_;refine aJ.mk _ (bj _) ?_;refine a9.mk [] [] _ (.refl _) (ahY ar (az.ds _ gr).t) ?_;rintro v I' M' -⟨rfl,rfl,rfl⟩;have aN:(bif right g.ds[i].t then(g.ds[i].t.n:Int)else 0)=(sH g.ds[i].t:Nat):=by
    unfold sH;cases right g.ds[i].t<;>rfl
   rw[aN];refine a3.mk ((((g.ds.take (i+1)).map λd=>sH d.t).sum:Nat):Int) ?_ ?_;·rw[wrap_i64 ⟨Z,Z⟩,gi cF,cJ,pW];simp
   refine a3.mk _ (cC (i:=i) Z) ?_;exact⟨i+1,⟨Z,Z⟩,.refl,dS,.nil⟩
  ·have cM:g.n<=i:=by simpa using h
   refine⟨_,_,.refl,?_,rfl,rfl⟩;rw[fE Z];rfl
def pZ(aB:List Int)(g:cR):Bool:=
 decide (64<g.n)||((!g.ds.all λd=>pR d.t)||(decide (1024<u5 g)||decide (8192<(qH aB g.ds []).length)))
def aiT(bm:fr I aB){g:cR}(az:g.ok I):Spec Tryz.prog 148 [g.val] I [] (λv I' M'=>v=.bool (pZ aB g)/\(∀ b o,I b=some o->I' b=some o)/\M'=[]):=by
 refine bR [] aT Tryz.func148 rfl rfl rfl ?_;intro B ax;have ib:=az.n;refine aS.mk (λaa=>?_) (λaa=>?_)
 ·refine⟨_,_,.refl,?_,λ_ _ h=>h,rfl⟩;have:64<g.n:=by simp at aa;omega
  simp[pZ,this]
 ·have aE:g.n<=64:=by simp at aa;omega
  have dC:pZ aB g=((!g.ds.all λd=>pR d.t)||(decide (1024<u5 g)||decide (8192<(qH aB g.ds []).length))):=by
   have:¬ 64<g.n:=by omega
   simp[pZ,this]
  rw[dC];refine c2.inv (ι:=Nat) (λi=>{ bn:=[(1,.ref 1 0),(10,.val (.slice g.a g.n g.c)),(11,.val (.int .i64 g.n)),(12,.val (.int .i64 i))],cl:=[(1,[.slice g.a g.n g.c])],cm:=I }) (λi=>i<=g.n/\(g.ds.take i).all (λd=>pR d.t)=true) (λi=>g.n-i) ?_ ?_;·exact⟨0,⟨am,rfl⟩,.refl,dS,.cons rfl .nil⟩
  ·rintro i⟨hi,eG⟩;refine aS.mk (λh=>?_) (λh=>?_)
   ·have aV:i<g.n:=by simpa using h
    have cF:i<g.ds.length:=by omega
    obtain⟨ad,bt,bj⟩:=az.a'.row a4.cq aV cF;have gr:g.ds[i]∈g.ds:=bD cF;refine bi.mk ad i bt rfl aV ?_;refine aJ.mk _ (bj _) ?_;refine a9.mk [] [] _ (.refl _) (ah2 bm.c (az.ds _ gr).t) ?_;rintro v I' M' -⟨rfl,rfl,rfl⟩;refine aS.mk (λab=>?_) (λab=>?_)
    ·refine⟨_,_,.refl,?_,λ_ _ h=>h,rfl⟩;have aC:pR g.ds[i].t=false:=by simpa using ab
     have:(g.ds.all λd=>pR d.t)=false:=by rw[KS];exact⟨_,gr,by simp[aC]⟩
     rw[this];rfl
    ·have aC:pR g.ds[i].t=true:=by simpa using ab
     refine a3.mk _ (cC (i:=i) Z) ?_;refine⟨i+1,⟨⟨Z,?_⟩,Z⟩,.refl,dS,.cons rfl .nil⟩;rw[gi cF,He,eG];simp[aC]
   ·have cM:g.n<=i:=by simpa using h
    rw[fE Z]at eG;rw[eG];have z1:∀ d∈g.ds,d.t.n<=1024:=λd aj=>by have:=fV.1 eG d aj;unfold pR at this;simp only[cH,gN]at this;exact this.1
    refine a9.mk [] [] _ (.refl _) (aiS bm.c az aE z1) ?_;rintro v I' M' -⟨rfl,rfl,rfl⟩;refine bZ.mk (λab=>?_) (λab=>?_)
    ·refine a9.mk [] [] _ (.refl _) (aiQ bm az aE z1) ?_;rintro v ed M' -⟨rfl,gq,rfl⟩;refine⟨_,_,.refl,?_,gq,rfl⟩;have hn:¬ 1024<u5 g:=by simp at ab;omega
     simp[hn];omega
    ·refine⟨_,_,.refl,?_,λ_ _ h=>h,rfl⟩;have hn:1024<u5 g:=by simp at ab;omega
     simp[hn]
def eT(name:ByteArray):List a4->Nat->Int
 |[],_=>-1| d::ds,i=>bif decide (d.name=name)then(i:Int)else eT name ds (i+1)
def aiU{g:cR}(az:g.ok I)(name:ByteArray):Spec Tryz.prog 111 [g.val,.string name] I [] (λv I' M'=>v=.int .i64 (eT name g.ds 0)/\I'=I/\M'=[]):=by
 refine bR [] aT Tryz.func111 rfl rfl rfl ?_;intro B ax;have ib:=az.n;have g8:=az.a'.cap;refine c2.inv (ι:=Nat) (λi=>{ bn:=[(1,.val (.string name)),(8,.val (.slice g.a g.n g.c)),(9,.val (.int .i64 g.n)),(10,.val (.int .i64 i))],cm:=I }) (λi=>i<=g.n/\eT name g.ds 0=eT name (g.ds.drop i) i) (λi=>g.n-i) ?_ ?_
 ·exact⟨0,⟨am,rfl⟩,.refl,dS,.nil⟩
 ·rintro i⟨hi,aC⟩;refine aS.mk (λh=>?_) (λh=>?_)
  ·have aV:i<g.n:=by simpa using h
   have cF:i<g.ds.length:=by omega
   obtain⟨ad,bt,bj⟩:=az.a'.row a4.cq aV cF;have l7:g.ds.drop i=g.ds[i]::g.ds.drop (i+1):=e9 cF;refine bi.mk ad i bt rfl aV ?_;refine aJ.mk _ (bj _) ?_;refine aS.mk (λab=>?_) (λab=>?_);·refine⟨_,_,.refl,?_,rfl,rfl⟩;rw[aC,l7,eT,ab];rfl
   ·refine a3.mk _ (cC (i:=i) Z) ?_;refine⟨i+1,⟨⟨Z,?_⟩,Z⟩,.refl,dS,.nil⟩;rw[aC,l7,eT,ab];rfl
  ·have cM:g.n<=i:=by simpa using h
   refine⟨_,_,.refl,?_,rfl,rfl⟩;rw[aC,l5 Z];rfl
def drop_cons{L:List α}{k:Nat}{x:α}{bq:List α}(h:L.drop k=x::bq):∃ af:k<L.length,L[k]=x/\L.drop (k+1)=bq:=by
 have af:k<L.length:=by apply Nat.lt_of_not_le;intro bo;rw[l5 bo]at h;cases h
 have aj:=e9 af;rw[h]at aj;obtain⟨aa,ab⟩:=List.cons.inj aj;exact⟨af,aa.symm,ab.symm⟩
def tE:Nat->List a4->List (List Value)
 |_,[]=>[]| i,d::ds=>d.t.ns.map (λn=>[.int .i64 i,n.val])++tE (i+1) ds
def aiV(g:cR):Spec Tryz.prog 149 [g.val] I [] λr I' M'=>∃ b,r=.func (.func 223) #[] #[ptr b]/\I' b=some (.cells #[.slice g.a g.n g.c] 28 (0,0))/\(∀ b o,I b=some o->I' b=some o)/\M'=[]:=by refine bR [1] aT Tryz.func149 rfl rfl rfl ?_;intro B ax;refine bN.mk λg az Ea=>?_;exact⟨_,_,.nG rfl am .refl,g,rfl,o3 ..,l9 az,rfl⟩
def aiW{g:cR}(az:g.ok I){b:Nat}(ah:I b=some (.cells #[.slice g.a g.n g.c] 28 (0,0))) :
  Iter Tryz.prog 223 [ptr b] I (tE 0 g.ds):=by
 intro l R lE rA dU M0 oh iT;refine BA [] aT Tryz.func223 rfl rfl rfl ?_;intro B ax;have ib:=az.n;have g8:=az.a'.cap;have bj:∀ (M:List aD),cG dU M ((⟨b,0,none⟩:Addr).add 0) 1 [.slice g.a g.n g.c]:=λM=>⟨rfl,_,_,_,.inl (oh _ _ ah),rfl,rfl⟩;refine aJ.mk _ (bj _) ?_;refine c2.inv (ι:=Nat×Nat×aI×List aD) (λx=>{ bn:=[(0,.val (.func (.yield l) #[] #[])),(8,.val (.slice g.a g.n g.c)),(9,.val (.int .i64 g.n)),(10,.val (.int .i64 x.1))],cm:=x.2.2.1,cK:=x.2.2.2 }) (λx=>x.1<=g.n/\(∀ b o,I b=some o->x.2.2.1 b=some o)/\R x.2.1 x.2.2.1 x.2.2.2/\x.2.1<=(tE 0 g.ds).length/\(tE 0 g.ds).drop x.2.1=tE x.1 (g.ds.drop x.1)) (λx=>g.n-x.1) ?_ ?_
 ·exact⟨(0,0,dU,M0),⟨am,oh,iT,am,rfl⟩,.refl,dS,.nil⟩
 ·rintro⟨i,k,I1,M1⟩⟨hi,di,h',cL,iW⟩;simp only at hi di h' cL iW;refine aS.mk (λh=>?_) (λh=>?_)
  ·have aV:i<g.n:=by simpa using h
   have cF:i<g.ds.length:=by omega
   have rC:=az.mono di;obtain⟨ad,bt,PN⟩:=rC.a'.row a4.cq aV cF;have gr:g.ds[i]∈g.ds:=bD cF;have gu:=(az.ds _ gr).t.n;have awz:=(az.ds _ gr).t.a'.cap;have l7:g.ds.drop i=g.ds[i]::g.ds.drop (i+1):=e9 cF;refine bi.mk ad i bt rfl aV ?_;refine aJ.mk _ (PN _) ?_;refine c2.inv (ι:=Nat×Nat×aI×List aD) (λx=>{ bn:=[(0,.val (.func (.yield l) #[] #[])),(3,.val (.int .i64 i)),(8,.val (.slice g.a g.n g.c)),(9,.val (.int .i64 g.n)),(10,.val (.int .i64 i)),(17,.val (.slice g.ds[i].t.a g.ds[i].t.n g.ds[i].t.c)),(18,.val (.int .i64 g.ds[i].t.n)),(19,.val (.int .i64 x.1))],cm:=x.2.2.1,cK:=x.2.2.2 }) (λx=>x.1<=g.ds[i].t.n/\(∀ b o,I b=some o->x.2.2.1 b=some o)/\R x.2.1 x.2.2.1 x.2.2.2/\x.2.1<=(tE 0 g.ds).length/\(tE 0 g.ds).drop x.2.1=(g.ds[i].t.ns.drop x.1).map (λn=>[.int .i64 i,n.val])++tE (i+1) (g.ds.drop (i+1))) (λx=>g.ds[i].t.n-x.1) ?_ ?_;·refine⟨(0,k,I1,M1),⟨am,di,h',cL,?_⟩,.refl,kd,.nil⟩;simp only;rw[iW,l7];rfl
   ·rintro⟨j,k,I1,M1⟩⟨ai,di,h',cL,iW⟩;simp only at ai di h' cL iW;refine aS.mk (λh=>?_) (λh=>?_)
    ·have fY:j<g.ds[i].t.n:=by simpa using h
     have o1:j<g.ds[i].t.ns.length:=by omega
     have rC:=az.mono di;obtain⟨k8,k9,hv⟩:=(rC.ds _ gr).t.a'.row ak.cq fY o1;have bW:g.ds[i].t.ns.drop j=g.ds[i].t.ns[j]::g.ds[i].t.ns.drop (j+1):=e9 o1;rw[bW,ch,pP]at iW;obtain⟨af,an,sI⟩:=drop_cons iW;refine bi.mk k8 j k9 rfl fY ?_;refine aJ.mk _ (hv _) ?_;refine bz.yield rfl am rfl rfl ?_;have aF:=rA k af I1 M1 di h';rw[an]at aF;refine BK.mk M1 [] _ am aF ?_;rintro v ed dp gq (⟨rfl,nb⟩ | ⟨rfl,ae⟩);·refine aS.mk (λh=>d5) (λ_=>?_);refine a3.mk _ (cC (i:=j) Z) ?_;exact⟨(j+1,k+1,ed,dp),⟨⟨ce,λb o h=>gq b o (di b o h),nb,af,sI⟩,ce⟩,.perm am .refl,kd,.nil⟩
     ·refine aS.mk (λ_=>?_) (λh=>d5);exact⟨_,_,.perm am .refl,.inr ae⟩
    ·have cM:g.ds[i].t.n<=j:=by simpa using h
     rw[l5 (show g.ds[i].t.ns.length<=j by omega),hd,hW]at iW;refine a3.mk _ (cC (i:=i) Z) ?_;exact⟨(i+1,k,I1,M1),⟨⟨ce,di,h',cL,iW⟩,ce⟩,.refl,dS,.nil⟩
  ·have cM:g.n<=i:=by simpa using h
   refine⟨_,_,.refl,.inl ?_⟩;rw[l5 (show g.ds.length<=i by omega)]at iW;have x3:k=(tE 0 g.ds).length:=by have:=GV.1 iW;omega
   rw[<-x3];exact h'
section
variable{X:c3}{β:Nat->Nat}{a:Act}{w:World}{F:Fr}{C:dB}{I:aI}{M:List aD}{o:Oper}{K:gx}
def cT.swap{n:Nat}{nM K2:Obj}{w':World}(h:cT X β a w F C I (⟨n,nM⟩::M))(aw:w'.heap.size=w.heap.size)(aE:w'.heap[n]?=some K2)(ah:∀ b,b≠n->w'.heap[b]?=w.heap[b]?)(aG:oM w w'):cT X β a w' F C I (⟨n,K2⟩::M):=by
 have aa:=h.Wg aw ah aG;have gj:(⟨n,nM⟩:aD)∈(⟨n,nM⟩:aD)::M:=by simp
 have bW:=h.holds.bO;simp only[ch,mw]at bW;have mem:∀ x,x∈(⟨n,K2⟩:aD)::M->x=⟨n,K2⟩\/x∈M:=λx ae=>ez.1 ae;exact {
  size:=aa.size
  defers:=by
   obtain⟨a',aN,bc,cy⟩:=aa.defers;obtain⟨aiX,f1,f2,f3⟩:=h.defers;refine⟨a',aN,bc,λr ag=>{ cy r ag with fe:=λx ae=>?_ }⟩;rcases mem x ae with rfl | ae
   ·have dX:a'=aiX:=by
     have:=aN.symm.trans f1;have B':∀ l e':List Nat,l.map xH=e'.map xH->l=e':=by
      intro l
      induction l with
      |nil=>intro e' h;cases e' with
       |nil=>rfl| cons=>simp at h
      |cons y l aX=>intro e' h;cases e' with
       |nil=>simp at h
       |cons z e'=>
        simp only[ch,wF,xH,Deferred.mk.injEq]at h;have aF:y=z:=by simpa using h.1
        rw[aF,aX e' h.2]
     exact B' _ _ this
    subst dX;exact(f3 r ag).fe ⟨n,nM⟩ gj
   ·exact(cy r ag).fe x ae
  holds:={
   i:=aa.holds.i
   m:=λx ae=>by
    rcases mem x ae with rfl | ae;·exact aE
    ·exact aa.holds.m x ae
   d:=λx ae=>by
    rcases mem x ae with rfl | ae;·exact h.holds.d ⟨n,nM⟩ gj
    ·exact aa.holds.d x ae
   bO:=by simpa using bW }
  ap:=h.ap
  cx:=λs cs l2=>by
   have we:=h.cx s cs l2;refine { aa.cx s cs l2 with fe:=λx ae=>?_ };rcases mem x ae with rfl | ae;·exact we.fe ⟨n,nM⟩ gj
   ·exact(aa.cx s cs l2).fe x ae
  inj:=h.inj
  ik:=h.ik
  hS:=h.hS
  own:=λx ae=>by
   rcases mem x ae with rfl | ae;·exact h.own ⟨n,nM⟩ gj
   ·exact aa.own x ae
  dR:=aa.dR
  out:=aa.out
  sz:=aa.sz
  fH:=aa.fH }
def o8(l:List (ByteArray×Int)):Nat->List MapEntry
 |i=>match l with
  |[]=>[]| p::l=>{ key:=.string p.1,val:=.int .i64 p.2,born:=i }::o8 l (i+1)
def jK(l:List (ByteArray×Int)):Obj:=.map (o8 l 0).toArray l.length
def eU(s:ByteArray):List (ByteArray×Int)->Option Int
 |[]=>none| p::l=>bif decide (s=p.1)then some p.2 else eU s l
def aiY(l:List (ByteArray×Int))(p:ByteArray×Int):∀ i,o8 (l++[p]) i=o8 l i++[{ key:=.string p.1,val:=.int .i64 p.2,born:=i+l.length }]:=by
 induction l with
 |nil=>intro i;simp[o8]| cons q l aX=>intro i;simp only[pP,o8,aX,ey,wF,true_and,List.append_cancel_left_eq,MapEntry.mk.injEq,and_true];omega
def bytes_beq(a b:ByteArray):(a == b)=decide (a=b):=by
 rw[my];simp only[gN];constructor
 ·intro h
  first | exact eq_of_beq h | exact tr (eq_of_beq (a:=a.data) (b:=b.data) h)
 ·rintro rfl
  first | exact KU _ | exact KU a.data
def K3(s:ByteArray):∀ (l:List (ByteArray×Int)) (i j:Nat),∃ r,Instr.findNow .string (.string s) (o8 l i) j=some r/\r.map (·.2)=(eU s l).map (Value.int .i64)
 |[],i,j=>⟨none,rfl,rfl⟩
 |p::l,i,j=>by
  obtain⟨r,aa,ab⟩:=K3 s l (i+1) (j+1);unfold o8 Instr.findNow;simp only[Instr.sameNow,bytes_beq];cases ah:decide (s=p.1)with
  |true=>exact⟨_,rfl,by simp[eU,ah]⟩| false=>exact⟨r,aa,by simp only[eU,ah,cw];exact ab⟩
theorem bz.makeMap(aQ:cX X.P X.E){t:Nat}{r:Operand}(aG:o.op=.makeMap t (some r))(aj:∀ d,o.dst=some d->d<X.n){k:Nat}(au:X.E t=some dd)(dA:dd.bM=.map k e)
  {q:IntKind} {n:Int} (ag:bI F r=.val (.int q n)) (h:∀ b,K (put o.dst (.val (.map (some b))) F) C I (⟨b,jK []⟩::M)):bz X o F C I M K:=by
 refine⟨λa w Q ⟨β,aZ⟩=>?_⟩;obtain⟨d,fQ,eZ⟩:=(aQ _ _ au).fA;have aa:d=.map k e:=by rw[dA]at eZ;cases d<;>simp_all[fz]
 subst aa;have PO:=dt aZ.ap ag;refine iQ f9 (v:=.map (some w.heap.size)) (w':=w.alloc (.map #[] 0)) ?_ ⟨_,_,_,_,⟨β,cT.put (x:=.val (.map (some w.heap.size))) (aZ.n' (jK [])) aj rfl⟩,h _⟩;unfold execOp;simp only[aG,lx,PO];simp[Instr.makeMap,run_underlying fQ,asInt,q8]
theorem bz.lookup(aQ:cX X.P X.E){t:Nat}(aG:o.op=.lookup t x y true)(aj:∀ d,o.dst=some d->d<X.n){k:Nat}(au:X.E t=some dd)(dA:dd.bM=.map k e)(af:X.E k=some tB)(eH:tB.bM=.string)(bg:∀ w,(zeroValue e).run X.P w=.ok (.int .i64 0) w){s:ByteArray}(ae:bI F x=.val (.map (some g)))(aF:bI F y=.val (.string s))(bd:(⟨g,jK l⟩:aD)∈M)
  (h:K (put o.dst (.val (.tuple #[.int .i64 ((eU s l).getD 0),.bool (eU s l).isSome])) F) C I M):bz X o F C I M K:=by
 refine⟨λa w Q ⟨β,aZ⟩=>?_⟩;obtain⟨d,fQ,eZ⟩:=(aQ _ _ au).fA;have aa:d=.map k e:=by rw[dA]at eZ;cases d<;>simp_all[fz]
 subst aa;obtain⟨dQ,sJ,gB⟩:=(aQ _ _ af).fA;have ab:dQ=.string:=by rw[eH]at gB;cases dQ<;>simp_all[fz]
 subst ab;have az:w.heap[g]?=some (.map (o8 l 0).toArray l.length):=aZ.holds.m _ bd;have ex:=dt aZ.ap ae;have nN:=dt aZ.ap aF;obtain⟨r,v7,mJ⟩:=K3 s l 0 0;have ar:(Instr.checkKey (o8 l 0).toArray.isEmpty 10000 k (.string s)).run X.P w=.ok () w:=Eg (k:=.string s) sJ ay1 _ 9999;have u6:(Instr.findKey k (.string s) (o8 l 0)).run X.P w=.ok r w:=Eh sJ v7;have fk:(Instr.lookup t (.map (some g)) (.string s) true).run X.P w=.ok (.tuple #[.int .i64 ((eU s l).getD 0),.bool (eU s l).isSome]) w:=by
  unfold Instr.lookup;simp only[cz,run_underlying fQ,cd,Ef az,dn,ar,u6];cases r with
  |none=>
   cases ay:eU s l with
   |none=>simp[bg]| some v=>rw[ay]at mJ;simp at mJ
  |some p=>
   cases ay:eU s l with
   |none=>rw[ay]at mJ;simp at mJ| some v=>rw[ay]at mJ;simp only[lx,kW]at mJ;simp[mJ]
 refine v5 aZ aj f9 ?_ h;unfold execOp;simp only[aG,ex,nN,cz,fk,cd,dn]
theorem bz.XB(aQ:cX X.P X.E){t:Nat}{z:Operand}(aG:o.op=.mapUpdate t x y z)(aj:o.dst=none){k:Nat}(au:X.E t=some dd)(dA:dd.bM=.map k e)(af:X.E k=some tB)(eH:tB.bM=.string)
 {s:ByteArray} {v:Int} (ae:bI F x=.val (.map (some g))) (aF:bI F y=.val (.string s)) (Bw:bI F z=.val (.int .i64 v)) (ay:eU s l=none)
  {Mr:List aD} (bd:M.Perm (⟨g,jK l⟩::Mr)) (h:K F C I (⟨g,jK (l++[(s,v)])⟩::Mr)):bz X o F C I M K:=by
 refine⟨λa w Q ⟨β,iT⟩=>?_⟩;have aZ:cT X β a w F C I (⟨g,jK l⟩::Mr):=iT.h6 (.perm bd .refl);obtain⟨d,fQ,eZ⟩:=(aQ _ _ au).fA;have aa:d=.map k e:=by rw[dA]at eZ;cases d<;>simp_all[fz]
 subst aa;obtain⟨dQ,sJ,gB⟩:=(aQ _ _ af).fA;have ab:dQ=.string:=by rw[eH]at gB;cases dQ<;>simp_all[fz]
 subst ab;have az:w.heap[g]?=some (.map (o8 l 0).toArray l.length):=aZ.holds.m ⟨g,jK l⟩ am;have ex:=dt aZ.ap ae;have nN:=dt aZ.ap aF;have PP:=dt aZ.ap Bw;obtain⟨r,v7,mJ⟩:=K3 s l 0 0;have ag:r=none:=by
  rw[ay]at mJ;cases r with
  |none=>rfl| some _=>simp at mJ
 subst ag;have ar:(Instr.checkKey false 10000 k (.string s)).run X.P w=.ok () w:=Eg (k:=.string s) sJ ay1 _ 9999;have u6:(Instr.findKey k (.string s) (o8 l 0)).run X.P w=.ok none w:=Eh sJ v7;have e3:jK (l++[(s,v)])=.map ((o8 l 0).toArray.push { key:=.string s,val:=.int .i64 v,born:=l.length }) (l.length+1):=by unfold jK;rw[aiY];simp
 have fk:(Instr.mapUpdate t (.map (some g)) (.string s) (.int .i64 v)).run X.P w=.ok () { w with heap:=w.heap.setIfInBounds g (jK (l++[(s,v)])) }:=by unfold Instr.mapUpdate;simp only[cz,run_underlying fQ,cd,Ef az,ar,u6,Pv _ az,e3]
 have gy:=MapKept.heap_set (o':=jK (l++[(s,v)])) az;refine DL f9 (w':={ w with heap:=w.heap.setIfInBounds g (jK (l++[(s,v)])) }) ?_ ⟨F,C,I,_,⟨β,?_⟩,h⟩
 ·unfold execOp;simp only[aG,ex,nN,PP,cz,fk,cd,dn]
 ·rw[aj];exact aZ.swap am gy.1 gy.2 ⟨rfl,rfl⟩
end
def qI:Nat->List a4->List (Nat×ak)
 |_,[]=>[]| i,d::ds=>d.t.ns.map (λn=>(i,n))++qI (i+1) ds
def Hr:∀ (ds:List a4) (i:Nat),tE i ds=(qI i ds).map λp=>[.int .i64 p.1,p.2.val]
 |[],i=>rfl| d::ds,i=>by simp only[tE,qI,cJ,gE,Hr ds (i+1)];rfl
def om(ds:List a4):Bool:=ds.all λd=>kF d.name&&normal d.t
def l':List (ByteArray×Int)->Nat->List a4->Option (List (ByteArray×Int))
 |a7,_,[]=>some a7| a7,i,d::ds=>bif (eU d.name a7).isSome then none else l' (a7++[(d.name,(i:Int))]) (i+1) ds
def z2(a7:List (ByteArray×Int))(n:ak):Bool:=!decide (n.k=3)||(eU n.t a7).isSome
def rI(a7:List (ByteArray×Int))(ds:List a4):Bool:=(qI 0 ds).all λp=>z2 a7 p.2
def ea(aB:List Int)(g:cR):Int:=
 bif decide ((g.n:Int)=0)then 4 else bif !om g.ds then 4 else bif pZ aB g then 40 else
 match l' [] 0 g.ds with
 |none=>6| some a7=>bif rI a7 g.ds then 0 else 41
def u7(b:Nat)(e:Int):aD:=⟨b,.cells #[.int .i64 e] 47 (0,0)⟩
def Ca{b:Nat}{e:Int}(h:u7 b e∈M):cG I M ⟨b,0,none⟩ 1 [.int .i64 e]:=
 ⟨rfl,_,_,_,.inr ⟨_,h,rfl,rfl⟩,rfl,rfl⟩
def Hs(w:World):(zeroValue 3).run Tryz.prog w=.ok (.int .i64 0) w:=by
 have h:(Tryz.prog.info? 3).map (λi=>i.zero)=some (some (.int .i64 0)):=by kernel_rfl
 obtain⟨i,aa,ab⟩:=s9.1 h;simp[zeroValue,typeInfo,aa,ab]
def XC(bm:fr I aB){g:cR}(az:g.ok I):Spec Tryz.prog 71 [g.val] I [] (λv I' M'=>v=.int .i64 (ea aB g)/\(∀ b o,I b=some o->I' b=some o)/\M'=[]):=by
 refine bR [2,5] aT Tryz.func71 rfl rfl rfl ?_;intro B ax;have ib:=az.n;have g8:=az.a'.cap;refine bN.mk λb8 iR K4=>?_;refine aS.mk (λaa=>?_) (λaa=>?_)
 ·refine b'.mk [] [] _ _ rfl rfl (bJ rfl) rfl ?_;refine aJ.mk _ (Ca (b:=b8) (e:=4) (.head _)) ?_;refine⟨_,_,.sub (eY _) .refl,?_,λ_ _ h=>h,rfl⟩;rw[ea,aa];rfl
 ·have kB:g.n≠0:=by simp at aa;omega
  refine c2.inv (ι:=Nat) (λi=>{ bn:=[(1,.ref 1 0),(2,.val (ptr b8)),(19,.val (.slice g.a g.n g.c)),(20,.val (.int .i64 g.n)),(21,.val (.int .i64 i))],cl:=[(1,[.slice g.a g.n g.c])],cm:=I,cK:=[u7 b8 0] }) (λi=>i<=g.n/\om (g.ds.take i)=true) (λi=>g.n-i) ?_ ?_;·exact⟨0,⟨am,rfl⟩,.refl,fh,.cons rfl .nil⟩
  ·rintro i⟨hi,eG⟩;refine aS.mk (λh=>?_) (λh=>?_)
   ·have aV:i<g.n:=by simpa using h
    have cF:i<g.ds.length:=by omega
    obtain⟨ad,bt,bj⟩:=az.a'.row a4.cq aV cF;have gr:g.ds[i]∈g.ds:=bD cF;have bad:(kF g.ds[i].name&&normal g.ds[i].t)=false->ea aB g=4:=λah=>by
     have:om g.ds=false:=by unfold om;rw[KS];exact⟨_,gr,by simp[ah]⟩
     rw[ea,aa,this];rfl
    refine bi.mk ad i bt rfl aV ?_;refine aJ.mk _ (bj _) ?_;refine a9.mk [] [u7 b8 0] _ (.refl _) (Pd _ g.ds[i].name) ?_;rintro v I' M' -⟨rfl,rfl,rfl⟩;refine bZ.mk (λab=>?_) (λab=>?_)
    ·have hm:kF g.ds[i].name=true:=by simpa using ab
     refine a9.mk [] [u7 b8 0] _ (.refl _) (aiR bm.c (az.ds _ gr).t) ?_;rintro v I' M' -⟨rfl,rfl,rfl⟩;refine aS.mk (λal=>?_) (λal=>?_)
     ·have eV:normal g.ds[i].t=false:=by simpa using al
      refine b'.mk [] [] _ _ rfl rfl (bJ rfl) rfl ?_;refine aJ.mk _ (Ca (b:=b8) (e:=4) (.head _)) ?_;refine⟨_,_,.sub (eY _) .refl,?_,λ_ _ h=>h,rfl⟩;rw[bad (by rw[hm,eV];rfl)];rfl
     ·have eV:normal g.ds[i].t=true:=by simpa using al
      refine a3.mk _ (cC (i:=i) Z) ?_;refine⟨i+1,⟨⟨Z,?_⟩,Z⟩,.refl,fh,.cons rfl .nil⟩;unfold om at eG |-;rw[gi cF,He,eG];simp[hm,eV]
    ·have hm:kF g.ds[i].name=false:=by simpa using ab
     refine b'.mk [] [] _ _ rfl rfl (bJ rfl) rfl ?_;refine aJ.mk _ (Ca (b:=b8) (e:=4) (.head _)) ?_;refine⟨_,_,.sub (eY _) .refl,?_,λ_ _ h=>h,rfl⟩;rw[bad (by rw[hm];rfl)];rfl
   ·have cM:g.n<=i:=by simpa using h
    rw[fE Z]at eG;refine a9.mk [] [u7 b8 0] _ (.refl _) (aiT bm az) ?_;rintro v I1 M' -⟨rfl,di,rfl⟩;refine aS.mk (λab=>?_) (λab=>?_);·refine b'.mk [] [] _ _ rfl rfl (bJ rfl) rfl ?_;refine aJ.mk _ (Ca (b:=b8) (e:=40) (.head _)) ?_;refine⟨_,_,.sub (eY _) .refl,?_,di,rfl⟩;rw[ea,aa,eG,ab];rfl
    ·have PQ:ea aB g=match l' [] 0 g.ds with
       |none=>6| some a7=>bif rI a7 g.ds then 0 else 41:=by
      rw[ea,aa,eG,ab];rfl
     rw[PQ];have rC:=az.mono di;refine bz.makeMap aT rfl am rfl rfl rfl λjY=>?_;refine bN.mk λeb Cb K5=>?_;refine b'.mk [] [⟨jY,jK []⟩,u7 b8 0] _ _ rfl rfl (bJ rfl) rfl ?_;refine c2.inv (ι:=Nat×List (ByteArray×Int)) (λx=>{ bn:=[(1,.ref 1 0),(2,.val (ptr b8)),(5,.val (ptr eb)),(43,.val (.slice g.a g.n g.c)),(44,.val (.int .i64 g.n)),(45,.val (.int .i64 x.1))],cl:=[(1,[.slice g.a g.n g.c])],cm:=I1,cK:=[⟨eb,.cells #[.map (some jY)] 167 (0,0)⟩,⟨jY,jK x.2⟩,u7 b8 0] }) (λx=>x.1<=g.n/\l' [] 0 g.ds=l' x.2 x.1 (g.ds.drop x.1)) (λx=>g.n-x.1) ?_ ?_;·exact⟨(0,[]),⟨am,rfl⟩,.refl,uF,.cons rfl .nil⟩
     ·rintro⟨i,a7⟩⟨hi,ob⟩;simp only at hi ob;refine aS.mk (λh=>?_) (λh=>?_)
      ·have aV:i<g.n:=by simpa using h
       have cF:i<g.ds.length:=by omega
       obtain⟨ad,bt,bj⟩:=rC.a'.row a4.cq aV cF;have l7:g.ds.drop i=g.ds[i]::g.ds.drop (i+1):=e9 cF;refine bi.mk ad i bt rfl aV ?_;refine aJ.mk _ (bj _) ?_;refine aJ.mk [.map (some jY)] ⟨rfl,_,_,_,.inr ⟨_,.head _,rfl,rfl⟩,rfl,rfl⟩ ?_;refine bz.lookup aT rfl am rfl rfl rfl rfl (λw=>Hs w) (l:=a7) (g:=jY) rfl rfl am ?_;refine aS.mk (λal=>?_) (λal=>?_);·refine b'.mk [⟨eb,.cells #[.map (some jY)] 167 (0,0)⟩,⟨jY,jK a7⟩] [] _ _ rfl rfl (bJ rfl) rfl ?_;refine aJ.mk _ (Ca (b:=b8) (e:=6) (.tail _ (.tail _ (.head _)))) ?_;refine⟨_,_,.sub (eY _) .refl,?_,di,rfl⟩;rw[ob,l7,l',al];rfl
       ·have ay:eU g.ds[i].name a7=none:=by simpa using al
        refine aJ.mk [.map (some jY)] ⟨rfl,_,_,_,.inr ⟨_,.head _,rfl,rfl⟩,rfl,rfl⟩ ?_;refine bz.XB aT rfl rfl rfl rfl rfl rfl rfl rfl rfl ay (Mr:=[⟨eb,.cells #[.map (some jY)] 167 (0,0)⟩,u7 b8 0]) (List.Perm.swap _ _ _) ?_;refine a3.mk _ (cC (i:=i) Z) ?_;refine⟨(i+1,a7++[(g.ds[i].name,(i:Int))]),⟨⟨ce,?_⟩,ce⟩,.perm (List.Perm.swap _ _ _) .refl,uF,.cons rfl .nil⟩;simp only;rw[ob,l7,l',al];rfl
      ·have awA:g.n<=i:=by simpa using h
       have eZ:l' [] 0 g.ds=some a7:=by rw[ob,l5 Z,l']
       rw[eZ];refine a9.mk [] [⟨eb,.cells #[.map (some jY)] 167 (0,0)⟩,⟨jY,jK a7⟩,u7 b8 0] _ (.refl _) (aiV g) ?_;rintro v ed dp -⟨c9,rfl,yb,gq,rfl⟩;have l8:=rC.mono gq;have XD:∀ b o,I b=some o->ed b=some o:=λb o h=>gq _ _ (di _ _ h);refine cN.range aT rfl rfl rfl .refl (aiW l8 yb) (λvs h=>?_) (λk I' M'=>(∀ b o,ed b=some o->I' b=some o)/\((qI 0 g.ds).take k).all (λp=>z2 a7 p.2)=true/\M'=[⟨eb,.cells #[.map (some jY)] 167 (0,0)⟩,⟨jY,jK a7⟩,u7 b8 0]) (λex I' M'=>ex=.ret/\(∀ b o,ed b=some o->I' b=some o)/\rI a7 g.ds=false/\M'=[⟨eb,.cells #[.map (some jY)] 167 (0,0)⟩,⟨jY,jK a7⟩,u7 b8 41]) ⟨λ_ _ h=>h,rfl,rfl⟩ ?_ ?_ ?_;·rw[Hr]at h;obtain⟨p,_,rfl⟩:=c6.1 h;rfl
       ·rintro k af I' M' -⟨k5,bl,rfl⟩l B ax jk;have yc:k<(qI 0 g.ds).length:=by simpa[Hr]using af
        generalize aK:(qI 0 g.ds)[k]=p;have an:(tE 0 g.ds)[k]=[.int .i64 p.1,p.2.val]:=by simp only[Hr,gl,aK]
        rw[an];have next:z2 a7 p.2=true->((qI 0 g.ds).take (k+1)).all (λp=>z2 a7 p.2)=true:=λh=>by rw[gi yc,He,bl,aK];simp[h]
        refine aS.mk (λal=>?_) (λal=>?_)
        ·refine⟨_,_,.refl,k5,next ?_,rfl⟩;have tF:decide (p.2.k=3)=false:=by simpa using al
         simp[z2,tF]
        ·have tF:decide (p.2.k=3)=true:=by simpa using al
         refine aJ.mk [.map (some jY)] ⟨rfl,_,_,_,.inr ⟨_,.head _,rfl,rfl⟩,rfl,rfl⟩ ?_;refine bz.lookup aT rfl am rfl rfl rfl rfl (λw=>Hs w) (l:=a7) (g:=jY) rfl rfl am ?_;refine aS.mk (λaL=>?_) (λaL=>?_)
         ·refine b'.mk [⟨eb,.cells #[.map (some jY)] 167 (0,0)⟩,⟨jY,jK a7⟩] [] _ _ rfl rfl (bJ rfl) rfl ?_;refine⟨_,_,.refl,rfl,k5,?_,rfl⟩;unfold rI;rw[KS];have Cc:(eU p.2.t a7).isSome=false:=by simpa using aL
          exact⟨p,by rw[<-aK];exact bD yc,by simp[z2,tF,Cc]⟩
         ·have Cc:(eU p.2.t a7).isSome=true:=by simpa using aL
          exact⟨_,_,.refl,k5,next (by simp[z2,Cc]),rfl⟩
       ·rintro I' M' -⟨k5,bl,rfl⟩;have PR:rI a7 g.ds=true:=by unfold rI;rw[fE (by simp[Hr])]at bl;exact bl
        refine b'.mk [⟨eb,.cells #[.map (some jY)] 167 (0,0)⟩,⟨jY,jK a7⟩] [] _ _ rfl rfl (bJ rfl) rfl ?_;refine aJ.mk _ (Ca (b:=b8) (e:=0) (.tail _ (.tail _ (.head _)))) ?_;refine⟨_,_,.sub (eY _) .refl,?_,λb o h=>k5 _ _ (XD _ _ h),rfl⟩;simp only[PR];rfl
       ·rintro ex I' M' -⟨rfl,k5,PR,rfl⟩;refine⟨am,?_⟩;refine aJ.mk _ (Ca (b:=b8) (e:=41) (.tail _ (.tail _ (.head _)))) ?_;refine⟨_,_,.sub (eY _) .refl,?_,λb o h=>k5 _ _ (XD _ _ h),rfl⟩;simp only[PR];rfl
structure z3 where
 a:Option Addr
 n:Nat
 c:Nat
 l:List Int
def z3.val(r:z3):Value:=.slice r.a r.n r.c
structure z3.ok(I:aI)(r:z3):Prop where
 a':cZ I r.a r.n r.c 1 8 (r.l.map (.int .i64 ·))
def z3.ok.n{r:z3}(h:r.ok I):r.l.length=r.n:=by have:=h.a'.len;simpa using this
structure wJ where
 rows:List z3
 a:Option Addr
 n:Nat
 c:Nat
def wJ.val(x:wJ):Value:=.slice x.a x.n x.c
structure wJ.ok(I:aI)(x:wJ):Prop where
 a':cZ I x.a x.n x.c 1 24 (x.rows.map z3.val)
 rows:∀ r∈x.rows,r.ok I
def wJ.ok.n{x:wJ}(h:x.ok I):x.rows.length=x.n:=by have:=h.a'.len;simpa using this
def aO.Eo{b:Nat}(h:os.ok size xs)(ah:os.n*b<=140737488355328)(bG:∀ g,os.a=some g->I g=none)(Mr:List aD) :
  ∃ I',h5 [] I (os.aq e++Mr) I' Mr/\(∀ b o,I b=some o->I' b=some o)/\cZ I' (os.a.map λg=>⟨g,0,none⟩) os.n os.c size b xs:=by
 obtain⟨a,n,c,aR⟩:=os;cases a with
 |none=>obtain⟨aa,ab⟩:=h.nil rfl;simp only at aa ab;subst aa;subst ab;exact⟨I,.refl,λ_ _ h=>h,h.len,⟨cf _,am⟩,.inl rfl⟩
 |some g=>obtain⟨aa,ab,al,aL⟩:=h.cap g rfl;have az:=bG g rfl;exact⟨ins I g (.cells aR.toArray e (0,0)),.nG rfl am .refl,l9 az,h.len,⟨ab,ah⟩,.inr ⟨⟨g,0,none⟩,rfl,rfl,_,_,_,o3 ..,AC⟩⟩
def gV:aO:=⟨none,0,0,[]⟩
def jt(size:Nat):gV.ok size []:=⟨by simp[gV],λ_=>⟨rfl,rfl⟩,λg h=>ci⟩
def XE(bV:os.ok 1 xs)(aa:aR.length=c*1)(ab:os.n+1<=c)(al:c<=maxLen)(aL:aR.take ((os.n+1)*1)=xs++[v]) :
  aO.ok ⟨some g,os.n+1,c,aR⟩ 1 (xs++[v]):=by
 have ay:=bV.len;refine⟨?_,(λh=>ci),λb2 o4=>⟨aa,ab,al,aL⟩⟩;rw[ct,ay];simp
def aO.ok.nX{l:List Int}(h:os.ok 1 (l.map (Value.int .i64))):os.n=l.length:=by have:=h.len;simp at this;omega
structure z4 where
 a:Option Addr
 n:Nat
 c:Nat
 l:List Bool
def z4.val(r:z4):Value:=.slice r.a r.n r.c
structure z4.ok(I:aI)(r:z4):Prop where
 a':cZ I r.a r.n r.c 1 1 (r.l.map Value.bool)
def z4.ok.n{r:z4}(h:r.ok I):r.l.length=r.n:=by have:=h.a'.len;simpa using this
def valid(n:Nat)(l:List Int):Prop:=∀ k∈l,0<=k/\k<n
inductive Comes(L:List (List Int))(i:Nat):Nat->Prop
 |self:Comes L i i| next {a k:Nat} (h:Comes L i a) (af:(k:Int)∈L.getD a []):Comes L i k
def XF(R:List (List Bool))(i k:Nat):Bool:=(R.getD i []).getD k false
def PS(R:List (List Bool))(i k:Nat):Prop:=XF R i k=true/\XF R k i=true
def PS.symm{R:List (List Bool)}(h:PS R i j):PS R j i:=⟨h.2,h.1⟩
def Comes.trans{L:List (List Int)}{k:Nat}(aa:Comes L i j)(ab:Comes L j k):Comes L i k:=by
 induction ab with
 |self=>exact aa| next _ af aX=>exact .next aX af
structure K6 where
 rows:List z4
 a:Option Addr
 n:Nat
 c:Nat
def K6.val(x:K6):Value:=.slice x.a x.n x.c
structure K6.ok(I:aI)(x:K6):Prop where
 a':cZ I x.a x.n x.c 1 24 (x.rows.map z4.val)
 rows:∀ r∈x.rows,r.ok I
def u9(W:World):aI:=λb=>W.heap[b]?
def aiZ(W:World):eJ (u9 W) [] W:=⟨λb o h=>h,(λx ae=>wt),(λx ae=>wt),DJ⟩
structure Cd(W km:World):Prop where
 dR:∀ b,b<W.heap.size->km.heap[b]?=W.heap[b]?
 sz:W.heap.size<=km.heap.size
 out:oM W km
def ai0{P:Program}{f:Nat}{args:List Value}{post:Value->aI->List aD->Prop}(h:vZ P f args (u9 W) [] post) :
  Calls P f args.toArray W λe km=>∃ v,e=.returned v/\(∃ I' M',post v I' M')/\Cd W km:=by
 refine(h.2 W (aiZ W)).mono ?_;rintro e km⟨v,I',M',rfl,aK,_,c7⟩;exact⟨v,rfl,⟨I',M',aK⟩,λb ah=>c7.dR b ah (λy aF=>by cases aF),c7.sz,c7.out⟩
def Cd.kept(h:Cd W km)(may:MemPlace->Prop):W.keptBut km may:=by
 refine⟨h.out.1,h.out.2,λi hi=>?_⟩;rw[h.dR i hi];cases W.heap[i]? with
 |none=>rfl| some o=>cases o<;>simp
def Cd.frozen(h:Cd W km){a:Addr}(a8:a.block<W.heap.size):km.frozen? a=W.frozen? a:=by unfold World.frozen?;rw[h.dR _ a8]
variable{H:Type}{enc:TypeId×Value->H}{P:Program}
def ai1{f:Func}{s:ChangeSpec}{apart fresh handsOn again:Bool}{args:Array Value}{ds gs:List (DataW H)}{before pa pv:List MemPlace}(hG:DataW.Whole enc P f.params.toList s.vars apart W args.toList ds gs before)(Ht:∀ (b:Nat) (gI:Nat->Bool) (aj:Bool),DataW.TrodAll enc P km b gI aj f.resultTypes.toList (v.resultList f.resultTypes.size) (s.fn H (ds++gs)).results [])(ng:∀ gI:Nat->Bool,(∀ p∈before,gI p.block=true)->DataW.TrodAll enc P km 0 gI true f.params.toList args.toList (s.fn H (ds++gs)).args pa)(XG:∀ gI:Nat->Bool,(∀ p∈before,gI p.block=true)->DataW.TrodVars enc P km gI s.vars (s.fn H (ds++gs)).vars pv)(Ep:before=pa++pv)(af:Cd W km)(bl:∀ (j:Nat) (t:TypeId) (r:Value),f.resultTypes[j]?=some t->(v.resultList f.resultTypes.size)[j]?=some r->Value.okWide P km .any 0 t r) :
  s.post enc P f apart fresh handsOn again W args v km:=by
 have hold:∀ p∈before,(λb=>decide (b<W.heap.size)) p.block=true:=λp aK=>by simpa using hG.lt p aK
 have aV:∀ p∈before,p.block<W.heap.size:=λp aK=>hG.lt p aK;refine⟨ds,gs,before,[],pa,pv,hG,Ht _ _ _,ng _ hold,XG _ hold,World.keptBut_mono (λp aK=>⟨aK,?_⟩) (af.kept (·∈before)),λ_=>?_⟩
 ·rw[Ep,cW]at aK;exact Or.inr aK
 ·obtain⟨_,_,_,_,_,bg,aE⟩:=hG;refine⟨bl,_,_,([]++pa)++pv,⟨[]++pa,pv,ChangeShapes.trodAll_append (ng _ (λ_ _=>rfl)) (Ht _ _ _),XG _ (λ_ _=>rfl),rfl,?_,?_⟩,?_⟩
  ·intro b off aK;have u':MemPlace.cell b off∈before:=by rw[Ep];simpa using aK
   rw[af.frozen (a:=⟨b,off,none⟩) (aV _ u')];exact bg b off u'
  ·intro a8;have:=aE a8;rw[Ep]at this;simpa using this
  ·intro p aK _;rw[Ep];simpa using aK
def yd:DataW H->Option Value
 | .lit (.int k z)=>some (.int k z)| .lit (.string l)=>some (.string ⟨l.toArray⟩)| .lit (.bool b)=>some (.bool b)| _=>none
def Hu(P:Program)(e:TypeId):Bool:=match P.underlying e with
 |some .bool | some (.int _) | some .string=>true| _=>false
section
variable{w:World}{da:Nat}{gI:Nat->Bool}{held:Bool}{fK:Nat}{t e:TypeId}{cs:List Value}{d:DataW H}{p:List MemPlace}
def XH(he:Hu P e=true)(h:DataW.trod enc P w da gI held fK e cs=some (d,p))(an:yd d=some v):cs=[v]:=by
 unfold Hu at he;split at he
 ·rename_i hu;obtain⟨b,rfl,ae⟩:=DataW.trod_bool hu h;cases ae;simpa[yd]using an
 ·rename_i k hu;obtain⟨n,rfl,ae,_⟩:=DataW.trod_int hu h;cases ae;simpa[yd]using an
 ·rename_i hu;obtain⟨s,rfl,ae,_⟩:=DataW.trod_string hu h;cases ae;simpa[yd]using an
 ·cases he
def K7{α β:Type}{f:α->Option β}:∀ {l:List α} {r:List β},l.mapM f=some r->r.length=l.length/\∀ i (h:i<l.length) (bu:i<r.length),f l[i]=some r[i]
 |[],r,h=>by simp at h;subst h;exact⟨rfl,λi h=>d5⟩
 |x::l,r,h=>by
  simp only[Gn,Option.bind_eq_bind,Pu,Option.pure_def,kW]at h;obtain⟨b,ah,GG,g4,rfl⟩:=h;obtain⟨aa,ab⟩:=K7 g4;refine⟨ayP,λi hi ck=>?_⟩;cases i with
  |zero=>simpa using ah| succ i=>simpa using ab i i7 (by simpa using ck)
def XI{cs vs:List Value}(ay:cs.length=vs.length)(h:∀ i (hi:i<vs.length),(cs.drop i).take 1=[vs[i]]):cs=vs:=by apply oV ay;intro i aa ab;have:=h i ab;rw[e9 aa,rr,qw]at this;simpa using this
def XJ{n:Nat}(au:P.underlying t=some (.array n e))(he:Hu P e=true)(Hv:P.cellsOf e=1)(dI:P.cellsOf t=n){ds:List (DataW H)}(h:DataW.trod enc P w da gI held fK t cs=some (.agg ds,p))(an:ds.mapM yd=some vs):cs=vs:=by
 obtain⟨xs,m,rfl,ae,ay,kk,hi⟩:=Py au h;have e5:ds=xs.map (·.1):=by have:=congrArg Prod.fst ae;simpa using this
 obtain⟨bb,bh⟩:=K7 an;have sK:vs.length=n:=by rw[bb,e5];simpa using kk
 refine XI (by rw[ay,dI,sK]) λi ck=>?_;have aa:=hi i Z;rw[Hv,gm]at aa;have va:i<xs.length:=by omega
 rw[du va]at aa;have ab:=bh i v6 ck;have al:ds[i]' v6=xs[i].1:=by simp[e5]
 rw[al]at ab;exact XH he (d:=xs[i].1) (p:=xs[i].2) aa ab
def ai2(au:P.underlying t=some (.struct dv))(aC:∀ (i:Nat) (f:Field),dv[i]?=some f->Hu P f.type=true/\f.offset=i/\P.cellsOf f.type=1)(dI:P.cellsOf t=dv.size){ds:List (DataW H)}(h:DataW.trod enc P w da gI held fK t cs=some (.agg ds,p))(an:ds.mapM yd=some vs):cs=vs:=by
 obtain⟨xs,m,rfl,ae,ay,kk,hi⟩:=DataW.trod_struct au h;have e5:ds=xs.map (·.1):=by have:=congrArg Prod.fst ae;simpa using this
 obtain⟨bb,bh⟩:=K7 an;have sK:vs.length=dv.size:=by rw[bb,e5];simpa using kk
 refine XI (by rw[ay,dI,sK]) λi ck=>?_;have XK:i<dv.size:=by omega
 obtain⟨eW,c8,hJ⟩:=aC i dv[i] (Ob XK);have aa:=hi i dv[i] (Ob XK);rw[c8,hJ]at aa;have va:i<xs.length:=by omega
 rw[du va]at aa;have ab:=bh i v6 ck;have al:ds[i]' v6=xs[i].1:=by simp[e5]
 rw[al]at ab;exact XH eW (d:=xs[i].1) (p:=xs[i].2) aa ab
def XL{sz:Nat}:∀ (rows:List (List Value)) (cs:List Value),cs.length=rows.length*sz->(∀ i (hi:i<rows.length),(cs.drop (i*sz)).take sz=rows[i])->cs=rows.flatten
 |[],cs,ay,_=>iB rt
 |r::rows,cs,ay,h=>by
  have ax:=h 0 am;simp only[zE,tq,tp]at ax;rw[ey,kD,m6]at ay;have aX:=XL (sz:=sz) rows (cs.drop sz) (by rw[oU];omega) λi hi=>by have:=h (i+1) i7;rw[D2,show sz+i*sz=(i+1)*sz from by rw[kD];omega];simpa using this
  rw[Px,<-aX,<-ax,pO]
def ai3{n:Nat}(au:P.underlying t=some (.array n e))(Hv:P.cellsOf e=sz)(dI:P.cellsOf t=n*sz){ds:List (DataW H)}(h:DataW.trod enc P w da gI held fK t cs=some (.agg ds,p))(ag:rows.length=ds.length)
  (fx:∀ i (hi:i<ds.length) (ck:i<rows.length) fK cs p,DataW.trod enc P w da gI held fK e cs=some (ds[i],p)->cs=rows[i]):cs=rows.flatten:=by
 obtain⟨xs,m,rfl,ae,ay,kk,hi⟩:=Py au h;have e5:ds=xs.map (·.1):=by have:=congrArg Prod.fst ae;simpa using this
 have dw:rows.length=n:=by rw[ag,e5];simpa using kk
 refine XL (sz:=sz) rows cs (by rw[ay,dI,dw]) λi ck=>?_;have aa:=hi i Z;rw[Hv]at aa;have va:i<xs.length:=by omega
 rw[du va]at aa;have al:ds[i]' v6=xs[i].1:=by simp[e5]
 exact fx i v6 ck m _ xs[i].2 (by rw[al];exact aa)
def XM(d:DataW H):Option (List Value):=match d with
 | .agg l=>l.mapM yd| _=>none
def PT{n:Nat}(au:P.underlying t=some (.array n e))(Hv:P.cellsOf e=sz)(dI:P.cellsOf t=n*sz){ds:List (DataW H)}(h:DataW.trod enc P w da gI held fK t cs=some (.agg ds,p))(ag:ds.mapM XM=some rows)
  (fx:∀ fK cs p l row,DataW.trod enc P w da gI held fK e cs=some (.agg l,p)->l.mapM yd=some row->cs=row):cs=rows.flatten:=by
 obtain⟨bb,bh⟩:=K7 ag;refine ai3 au Hv dI h bb λi hi ck fK cs p bu=>?_;have ab:=bh i hi ck;unfold XM at ab;split at ab
 ·rename_i l ay;rw[ay]at bu;exact fx _ _ _ _ _ bu ab
 ·cases ab
end
end Go.V
namespace Go.V
open Go Go.Proofs
variable{P aB:List Int}{t:bf}{x y:Operand}{a:Option Addr}{other:Prop}{I:aI}{i j g c e size sz fK da:Nat}{w:Bool}{F:Fr}{C:dB}{M:List aD}{vs xs aR cs:List Value}{α:Type}{X:c3}{dd tB:dV}{l:List (ByteArray×Int)}{v:Value}{os:aO}{W km:World}{dv:Array Field}{rows:List (List Value)}{p:List MemPlace}
def K8{P:Program}{n:String}{cs:Array Value}(az:P.globalNamed n=some g)(h:W.var? P n=some cs):∃ T ap,W.heap[g]?=some (.cells cs T ap):=by
 simp only[World.var?,az,Option.bind_some]at h;split at h
 ·rename_i c T ap cU;cases h;exact⟨T,ap,cU⟩
 ·cases h
def kK:List Int:=[0,1,56,2,57,49,28,3,61,58,42,50,38,29,17,4,62,47,59,36,45,43,51,22,53,39,33,30,24,18,12,5,63,55,48,27,60,41,37,16,46,35,44,21,52,32,23,11,54,26,40,15,34,20,31,10,25,14,19,9,13,8,7,6]
def ai4{bq:List (String×DataW Unit)}(h:laidMet Tryz.prog ([("math/bits.deBruijn32tab",YtjaibbcbjfapaaaGreatDoor.Rows.laid_math_bits_deBruijn32tab),("math/bits.deBruijn64tab",YtjaibbcbjfapaaaGreatDoor.Rows.laid_math_bits_deBruijn64tab),("internal/strconv.uint64pow10",YtjaibbcbjfapaaaGreatDoor.Rows.laid_internal_strconv_uint64pow10),("bonsai/tree.counts",YtjaibbcbjfapaaaGreatDoor.Rows.laid_bonsai_tree_counts),("bonsai/print.counts",YtjaibbcbjfapaaaGreatDoor.Rows.laid_bonsai_print_counts),("bonsai/print.signs",YtjaibbcbjfapaaaGreatDoor.Rows.laid_bonsai_print_signs)]++bq) W):fr (u9 W) kK:=by
 obtain⟨ps,ca,_⟩:=h;obtain⟨bb,t1,awB,f1,BU,ee,rC,tD,Ox,iW,ca,_⟩:=ca;obtain⟨bh,t2,PU,f2,BV,eO,l8,nW,jg,sI,ca,_⟩:=ca;obtain⟨b2,t3,awC,f3,ai5,eS,o4,ye,Hw,K9,ca,_⟩:=ca;obtain⟨gg,t4,ai6,f4,p4,jq,B8,PV,ai7,PW,ca,_⟩:=ca;obtain⟨oc,t5,ai8,f5,p5,Er,XN,ai9,aja,ajb,ca,_⟩:=ca;obtain⟨K',t6,ajc,f6,awD,PX,XO,ajd,aje,ajf,ca,_⟩:=ca;obtain rfl:=eX ((show Tryz.prog.globalNamed "math/bits.deBruijn64tab" = some 4 by kernel_rfl).symm.trans l8)
 obtain rfl:=eX ((show(Tryz.prog.globals[4]?).map (·.type)=some 428 by kernel_rfl).symm.trans nW);obtain rfl:=eX ((show Tryz.prog.globalNamed "bonsai/tree.counts" = some 0 by kernel_rfl).symm.trans B8)
 obtain rfl:=eX ((show(Tryz.prog.globals[0]?).map (·.type)=some 261 by kernel_rfl).symm.trans PV);obtain rfl:=eX ((show Tryz.prog.globalNamed "bonsai/print.counts" = some 2 by kernel_rfl).symm.trans XN)
 obtain rfl:=eX ((show(Tryz.prog.globals[2]?).map (·.type)=some 409 by kernel_rfl).symm.trans ai9);obtain rfl:=eX ((show Tryz.prog.globalNamed "bonsai/print.signs" = some 1 by kernel_rfl).symm.trans XO)
 obtain rfl:=eX ((show(Tryz.prog.globals[1]?).map (·.type)=some 384 by kernel_rfl).symm.trans ajd);obtain⟨B3,kL,b8⟩:=K8 l8 jg;obtain⟨PK,tG,gW⟩:=K8 B8 ai7;obtain⟨ajg,ajh,eb⟩:=K8 XN aja;obtain⟨aji,ajj,b6⟩:=K8 XO aje;have e1:PU.toList=kK.map (Value.int .u8):=XJ (show Tryz.prog.underlying 428=some (.array 64 5) by kernel_rfl) d4 d4 d4 sI d4;have Ce:ai6.toList=jl.map (Value.int .i64):=PT (n:=10) (sz:=2) (show Tryz.prog.underlying 261=some (.array 10 260) by kernel_rfl) d4 d4 PW (rows:=[[.int .i64 0,.int .i64 0],[.int .i64 0,.int .i64 0],[.int .i64 0,.int .i64 0],[.int .i64 0,.int .i64 0],[.int .i64 2,.int .i64 (-1)],[.int .i64 2,.int .i64 (-1)],[.int .i64 1,.int .i64 1],[.int .i64 1,.int .i64 1],[.int .i64 1,.int .i64 1],[.int .i64 1,.int .i64 1]]) d4 (λ_ _ _ _ _ aa ab=>XJ (show Tryz.prog.underlying 260=some (.array 2 3) by kernel_rfl) d4 d4 d4 aa ab);have fields:∀ {t:TypeId},(match Tryz.prog.underlying t with
   |some (.struct dv)=>decide (Tryz.prog.cellsOf t=dv.size)&&(List.range dv.size).all λi=>match dv[i]? with
    |some f=>Hu Tryz.prog f.type&&(decide (f.offset=i)&&decide (Tryz.prog.cellsOf f.type=1))| none=>false
   |_=>false)=true->∀ (fK:Nat) (cs:List Value) (p:List MemPlace) (l:List (DataW Unit)) (row:List Value),DataW.trod (λ_=>()) Tryz.prog W 0 (λ_=>true) false fK t cs=some (.agg l,p)->l.mapM yd=some row->cs=row:=by
  intro t ar fK cs p l row aa ab;split at ar;·rename_i dv hu;simp only[cH,gN,fV,kx]at ar;refine ai2 hu (λi f aC=>?_) ar.1 aa ab;have hi:=ar.2 i (lW.1 aC).1;rw[aC]at hi;simpa using hi
  ·cases ar
 have Cf:ai8.toList=Hh:=PT (n:=3) (sz:=3) (show Tryz.prog.underlying 409=some (.array 3 408) by kernel_rfl) d4 d4 ajb (rows:=[[.int .i64 0,.int .i64 1,.string ⟨#[63]⟩],[.int .i64 0,.int .i64 (-1),.string ⟨#[42]⟩],[.int .i64 1,.int .i64 (-1),.string ⟨#[43]⟩]]) d4 (fields d4);have Hx:ajc.toList=uX.map λl=>Value.string (strOf l):=PT (n:=10) (sz:=3) (show Tryz.prog.underlying 384=some (.array 10 383) by kernel_rfl) d4 d4 ajf (rows:=[[.string ⟨#[]⟩,.string ⟨#[]⟩,.string ⟨#[]⟩],[.string ⟨#[]⟩,.string ⟨#[]⟩,.string ⟨#[]⟩],[.string ⟨#[]⟩,.string ⟨#[]⟩,.string ⟨#[]⟩],[.string ⟨#[]⟩,.string ⟨#[]⟩,.string ⟨#[]⟩],[.string ⟨#[]⟩,.string ⟨#[32]⟩,.string ⟨#[]⟩],[.string ⟨#[]⟩,.string ⟨#[32,47,32]⟩,.string ⟨#[]⟩],[.string ⟨#[]⟩,.string ⟨#[]⟩,.string ⟨#[]⟩],[.string ⟨#[38]⟩,.string ⟨#[]⟩,.string ⟨#[]⟩],[.string ⟨#[33]⟩,.string ⟨#[]⟩,.string ⟨#[]⟩],[.string ⟨#[60]⟩,.string ⟨#[]⟩,.string ⟨#[62]⟩]]) d4 (fields d4);have arr:∀ {cs:Array Value} {l:List Value},cs.toList=l->cs=l.toArray:=λh=>by apply lY;simpa using h
 refine⟨⟨PK,tG,?_⟩,⟨ajg,ajh,?_⟩,⟨aji,ajj,?_⟩,bv,bv,B3,kL,?_⟩
 ·rw[<-arr Ce];exact gW
 ·rw[<-arr Cf];exact eb
 ·rw[<-arr Hx];exact b6
 ·rw[<-arr e1];exact b8
def Es(cs:Array Value):Obj->Obj
 | .cells _ t ap=>.cells cs t ap| o=>o
def ajk:List Int:=(List.range 20).map λi=>(10:Int)^i
def ajl:List Int:=[0,1,28,2,29,14,24,3,30,22,20,15,25,17,4,8,31,27,13,23,21,19,16,7,26,12,18,6,11,5,10,9]
noncomputable def PY(os:Os):World:=
 { World.holding Tryz.prog os ⟨#[],#[],[]⟩with heap:=((((((World.holding Tryz.prog os ⟨#[],#[],[]⟩).heap.modify 0 (Es (jl.map (Value.int .i64)).toArray)).modify 2 (Es Hh.toArray)).modify 1 (Es (uX.map λl=>Value.string (strOf l)).toArray)).modify 4 (Es (kK.map (Value.int .u8)).toArray)).modify 5 (Es (ajk.map (Value.int .u64)).toArray)).modify 6 (Es (ajl.map (Value.int .u8)).toArray) }
def own:ownKnob Tryz.prog.godebug=none:=by kernel_rfl
def laidOut:laidOutB Tryz.prog=true:=by kernel_rfl
def XP{l:List α}{q:α->Bool}(h:l.all q=true){x:α}(ae:x∈l):q x=true:=fV.1 h x ae
def ajm{L:List (String×DataW Unit)}(ca:laidMetH Tryz.prog L W)(he:L=[("math/bits.deBruijn32tab",YtjaibbcbjfapaaaGreatDoor.Rows.laid_math_bits_deBruijn32tab),("math/bits.deBruijn64tab",YtjaibbcbjfapaaaGreatDoor.Rows.laid_math_bits_deBruijn64tab),("internal/strconv.uint64pow10",YtjaibbcbjfapaaaGreatDoor.Rows.laid_internal_strconv_uint64pow10),("bonsai/tree.counts",YtjaibbcbjfapaaaGreatDoor.Rows.laid_bonsai_tree_counts),("bonsai/print.counts",YtjaibbcbjfapaaaGreatDoor.Rows.laid_bonsai_print_counts),("bonsai/print.signs",YtjaibbcbjfapaaaGreatDoor.Rows.laid_bonsai_print_signs)]):fr (u9 W) kK:=by
 subst he;exact ai4 (bq:=[]) ca
structure Cg(I:aI)(d:ak):Prop where
 k:0<=d.k/\d.k<256
 b0:eC d.b0
 s1:eC d.s1
 s2:eC d.s2
 cg:eC d.cg
 lo:hy d.lo
 hi:hy d.hi
 a':cZ I d.bX d.aA d.b5 1 0 (d.ao.map (.int .i64 ·))
 ao:∀ x∈d.ao,hy x
 ts:d.t.size<=9223372036854775807
structure vb(I:aI)(t:bf):Prop where
 a':cZ I t.a t.n t.c 9 0 (t.ns.flatMap ak.cells)
 ns:∀ d∈t.ns,Cg I d
 bp:hy t.bp
structure PZ(I:aI)(d:a4):Prop where
 name:d.name.size<=9223372036854775807
 t:vb I d.t
structure Et(I:aI)(g:cR):Prop where
 a':cZ I g.a g.n g.c 3 0 (g.ds.flatMap a4.cells)
 ds:∀ d∈g.ds,PZ I d
def cZ.Hy{n b il:Nat}(h:cZ I a n c size b vs)(ah:n*il<=140737488355328):cZ I a n c size il vs:=⟨h.len,⟨h.cap.1,ah⟩,h.rd⟩
structure P0(d:ak):Prop where
 aA:d.aA<2500
structure XQ(d:a4):Prop where
 name:d.name.size<2500
 n:d.t.n<2500
 ns:∀ bO∈d.t.ns,P0 bO
structure ajn(g:cR):Prop where
 n:g.n<2500
 ds:∀ d∈g.ds,XQ d
def Cg.ok{d:ak}(h:Cg I d)(aw:P0 d):d.ok I:=
 ⟨h.k,h.b0,h.s1,h.s2,h.cg,h.ts,h.lo,h.hi,h.a'.Hy (by have:=aw.aA;omega),h.ao⟩
def PZ.ok{d:a4}(h:PZ I d)(aw:XQ d):d.ok I:=
 ⟨by have:=aw.name;omega,⟨h.t.a'.Hy (by have:=aw.n;omega),λbO bW=>(h.t.ns bO bW).ok (aw.ns bO bW),h.t.bp⟩⟩
def Et.ok{g:cR}(h:Et I g)(aw:ajn g):g.ok I:=
 ⟨h.a'.Hy (by have:=aw.n;omega),λd aj=>(h.ds d aj).ok (aw.ds d aj)⟩
def Et.n{g:cR}(h:Et I g):g.ds.length=g.n:=by have:=h.a'.len;rw[gz _ 3 a4.cq]at this;omega
def vb.n(h:vb I t):t.ns.length=t.n:=by have:=h.a'.len;rw[gz _ 9 ak.cq]at this;omega
def iY{x r:Int}(h:x=r)(ag:-9223372036854775808<=r/\r<=9223372036854775807):IntKind.i64.wrap x=r:=by rw[h];exact wrap_i64 ag
def aO.yf{l:List Int}(h:os.ok 1 (l.map (.int .i64 ·)))(bd:∀ x∈os.aq e,x∈M)(ai:j<l.length) :
  ∃ ad,(os.a.map λg=>(⟨g,0,none⟩:Addr))=some ad/\cG I M (ad.add (j*1)) 1 [.int .i64 l[j]]:=by
 obtain⟨a,n,c,aR⟩:=os;have ay:=h.nX;simp only at ay;cases a with
 |none=>have:=(h.nil rfl).1;simp only at this;omega
 |some g=>
  obtain⟨aa,ab,al,aL⟩:=h.cap g rfl;simp only at aa ab aL;refine⟨⟨g,0,none⟩,rfl,?_⟩;rw[eK _ rfl];refine⟨rfl,_,_,_,.inr ⟨⟨g,.cells aR.toArray e (0,0)⟩,bd _ gt,rfl,rfl⟩,?_,rfl⟩;simp only[dg,gm];have jT:j<(l.map (Value.int .i64)).length:=by simpa using ai
  have aN:(aR.take (n*1))[j]?=some (.int .i64 l[j]):=by rw[aL];simp[ai]
  rw[lv]at aN;have nf:j<n*1:=by omega
  rw[bY nf]at aN;have XR:j<aR.length:=(jd.1 aN).1;rw[e9 XR,rr,qw];rw[du XR]at aN;rw[eX aN]
section
variable{H:Type}{enc:TypeId×Value->H}{P:Program}{W:World}{da:Nat}{gI:Nat->Bool}{held:Bool}
def XS{α:Type}{p:Nat->α->Prop}:∀ (n:Nat),(∀ i,i<n->∃ d,p i d)->∃ l:List α,l.length=n/\∀ i (h:i<l.length),p i l[i]
 |0,_=>⟨[],rfl,λi h=>d5⟩
 |n+1,h=>by
  obtain⟨l,aa,ab⟩:=XS n λi hi=>h i Z;obtain⟨d,aj⟩:=h n Z;refine⟨l++[d],ayP,λi hi=>?_⟩;by_cases aV:i<l.length;·rw[wE aV];exact ab i aV
  ·have e:i=l.length:=by simp at hi;omega
   subst e;simpa[aa]using aj
def XT{f:α->List Value}(aw:0<size)(aC:∀ x,(f x).length=size)(ok:α->Prop){t e:TypeId}(au:P.underlying t=some (.slice e))(ar:P.cellsOf e=size)(fx:∀ fK cs x,DataW.trod enc P W da gI held fK e cs=some x->∃ d,cs=f d/\ok d){x:DataW H×List MemPlace}(h:DataW.trod enc P W da gI held fK t cs=some x) :
  ∃ (a:Option Addr) (n c:Nat) (l:List α),cs=[.slice a n c]/\cZ (u9 W) a n c size 0 (l.flatMap f)/\l.length=n/\(∀ d∈l,ok d)/\(a=none->c=0)/\c<=maxLen:=by
 rcases DataW.trod_slice au h with⟨rfl,_⟩ | ⟨a,len,cap,awE,bq,m,_,rfl,_,ah,ay,hm,c0,ajo,_,_⟩
 ·exact⟨none,0,0,[],rfl,⟨am,⟨cf _,Z⟩,.inl rfl⟩,rfl,λd aj=>by simp at aj,λ_=>rfl,ay2⟩
 have each:∀ i,i<len->∃ d,ok d/\W.cells? da (a.add (i*size)) size=some (f d):=λi hi=>by have aa:=ajo i hi;rw[ar,du Z]at aa;obtain⟨cs',ab,al⟩:=Pu.1 aa;obtain⟨d,rfl,aj⟩:=fx _ _ _ al;exact⟨d,aj,ab⟩
 obtain⟨l,oa,P1⟩:=XS len each;refine⟨some a,len,cap,l,rfl,⟨by rw[gz f size aC,oa],⟨ay,Z⟩,?_⟩,oa,λd aj=>?_,λh=>d5,hm⟩
 ·by_cases ax:len=0
  ·exact .inl ax
  right
  have Ch:=(P1 0 Z).2;obtain⟨-,-,Hz⟩:=World.cells?_some Ch;have XU:=Hz 0 aw;rw[du (by rw[aC];exact aw)]at XU;have XV:a.spot=none:=by
   have:=World.cell?_spot XU;cases de:a.spot with
   |none=>rfl| some s=>simp[Addr.add,de]at this
  refine⟨a,rfl,XV,?_⟩;have XW:∀ i (hi:i<l.length),∀ k,k<size->W.cell? ⟨a.block,a.off+(i*size+k),none⟩=(f l[i])[k]?:=λi hi k af=>by obtain⟨-,-,cU⟩:=World.cells?_some (P1 i hi).2;have:=cU k af;rw[eK _ XV,eK _ rfl]at this;rw[<-this];congr 2;simp only[];omega
  have ajp:∃ cs T ap,W.heap[a.block]?=some (.cells cs T ap):=by
   have aa:=XW 0 Z 0 aw;rw[du (by rw[aC];exact aw)]at aa;unfold World.cell? at aa;cases cU:W.heap[a.block]? with
   |none=>simp[cU]at aa
   |some o=>
    cases o with
    |cells cs T ap=>exact⟨cs,T,ap,rfl⟩| _=>simp[cU]at aa
  obtain⟨cs,T,ap,cU⟩:=ajp;refine⟨cs,T,ap,cU,?_⟩;have ma:=gz f size aC l;apply zB;intro j;by_cases ai:j<len*size
  ·have hdiv:j/size<l.length:=by rw[oa];exact Nat.div_lt_of_lt_mul (by rw[Nat.mul_comm];exact ai)
   have La:=Hf j aw;have e:=Nat.div_add_mod j size;rw[Nat.mul_comm]at e;have aa:=XW (j/size) hdiv (j%size) La;rw[e]at aa;have ab:=BQ f size aC l (j/size) hdiv;have al:(l.flatMap f)[j]?=(f l[j/size])[j%size]?:=by rw[<-ab,lv,bY La,nC,e]
   rw[al,<-aa,lv,bY ai,nC];simp[World.cell?,cU]
  ·rw[rp (by rw[fF];omega),rp (by rw[ma,oa];omega)]
 ·obtain⟨i,hi,rfl⟩:=hL aj;exact(P1 i hi).1
def Ci{k:IntKind}{t:TypeId}{x:DataW H×List MemPlace}(au:P.underlying t=some (.int k))(h:DataW.trod enc P W da gI held fK t cs=some x):∃ n,cs=[.int k n]/\(Lit.int k n).wf=true:=by obtain⟨n,aa,_,ab⟩:=DataW.trod_int au h;exact⟨n,aa,ab⟩
def wf_i64{n:Int}(h:(Lit.int .i64 n).wf=true):hy n:=by simp[Lit.wf,IntKind.min,IntKind.max,IntKind.signed,IntKind.bits]at h;exact h
def wf_u64{n:Int}(h:(Lit.int .u64 n).wf=true):eC n:=by simp[Lit.wf,IntKind.min,IntKind.max,IntKind.signed,IntKind.bits]at h;unfold eC;omega
def wf_u8{n:Int}(h:(Lit.int .u8 n).wf=true):0<=n/\n<256:=by simp[Lit.wf,IntKind.min,IntKind.max,IntKind.signed,IntKind.bits]at h;omega
end
section
variable{H:Type}{enc:TypeId×Value->H}{W:World}{da:Nat}{gI:Nat->Bool}{held:Bool}
def ajq{x:DataW H×List MemPlace}(h:DataW.trod enc Tryz.prog W da gI held fK 42 cs=some x) :
  ∃ (a:Option Addr) (n c:Nat) (l:List Int),cs=[.slice a n c]/\cZ (u9 W) a n c 1 0 (l.map (.int .i64 ·))/\l.length=n/\∀ k∈l,hy k:=by
 obtain⟨a,n,c,l,aa,ab,al,aL,-,-⟩:=XT (f:=λk=>[Value.int .i64 k]) (size:=1) bv (λ_=>rfl) hy (show Tryz.prog.underlying 42=some (.slice 3) by kernel_rfl) d4
  (λfK cs x h=>by
   obtain⟨n,aa,ab⟩:=Ci (show Tryz.prog.underlying 3=some (.int .i64) by kernel_rfl) h;exact⟨n,aa,wf_i64 ab⟩) h
 refine⟨a,n,c,l,aa,?_,al,aL⟩;rwa [<-List.map_eq_flatMap]at ab
def ajr{l:List α}(h:l.length=4):∃ a b c d,l=[a,b,c,d]:=by
 match l,h with
 |[a,b,c,d],_=>exact⟨a,b,c,d,rfl⟩
def ajs{l:List α}(h:l.length=9):∃ a b c d e f g i j,l=[a,b,c,d,e,f,g,i,j]:=by
 match l,h with
 |[a,b,c,d,e,f,g,i,j],_=>exact⟨a,b,c,d,e,f,g,i,j,rfl⟩
def ajt{l:List α}(h:l.length=2):∃ a b,l=[a,b]:=by
 match l,h with
 |[a,b],_=>exact⟨a,b,rfl⟩
def aju{x:DataW H×List MemPlace}(h:DataW.trod enc Tryz.prog W da gI held fK 36 cs=some x) :
  ∃ a b c d:Int,cs=[.int .u64 a,.int .u64 b,.int .u64 c,.int .u64 d]/\eC a/\eC b/\eC c/\eC d:=by
 obtain⟨xs,m,_,_,ay,kk,hi⟩:=Py (show Tryz.prog.underlying 36=some (.array 4 34) by kernel_rfl) h;rw[show Tryz.prog.cellsOf 36=4 by kernel_rfl]at ay;rw[show Tryz.prog.cellsOf 34=1 by kernel_rfl]at hi;have hu:Tryz.prog.underlying 34=some (.int .u64):=by kernel_rfl
 obtain⟨a,b,c,d,rfl⟩:=ajr ay;have get:∀ i,(j':i<4)->∃ n,(([a,b,c,d]:List Value).drop (i*1)).take 1=[.int .u64 n]/\eC n:=λi j'=>by have aa:=hi i j';rw[du Z]at aa;obtain⟨n,ab,al⟩:=Ci hu aa;exact⟨n,ab,wf_u64 al⟩
 obtain⟨n0,dC,HA⟩:=get 0 bv;obtain⟨rB,aN,eW⟩:=get 1 bv;obtain⟨kG,bc,c8⟩:=get 2 bv;obtain⟨XX,cy,hJ⟩:=get 3 bv;simp at dC aN bc cy;subst dC aN bc cy;exact⟨_,_,_,_,rfl,HA,eW,c8,hJ⟩
def P2{P:Program}{t:Nat}{l:List (Nat×Nat)}(h:(match P.underlying t with
  |some (.struct dv)=>decide (dv.toList.map (λf=>(f.type,f.offset))=l)| _=>false)=true):∃ dv,P.underlying t=some (.struct dv)/\dv.toList.map (λf=>(f.type,f.offset))=l:=by
 split at h
 ·rename_i dv hu;exact⟨dv,hu,cv h⟩
 ·cases h
def XY{P:Program}{l:List (Nat×Nat)}{q:Nat->Nat->Prop}(aC:dv.toList.map (λf=>(f.type,f.offset))=l)(h:∀ (i:Nat) (f:Field),dv[i]?=some f->q f.type f.offset):∀ (i t o:Nat),l[i]?=some (t,o)->q t o:=by subst aC;intro i t o hi;simp only[jJ,s9,Prod.mk.injEq]at hi;obtain⟨f,aa,rfl,rfl⟩:=hi;exact h i f ol
def XZ{P:Program}{t:TypeId}{x:DataW H×List MemPlace}(au:P.underlying t=some (.struct dv))(h:DataW.trod enc P W da gI held fK t cs=some x) :
  cs.length=P.cellsOf t/\∀ (i:Nat) (f:Field),dv[i]?=some f->∃ fK y,DataW.trod enc P W da gI held fK f.type ((cs.drop f.offset).take (P.cellsOf f.type))=some y:=by
 obtain⟨xs,m,_,_,ay,kk,hi⟩:=DataW.trod_struct au h;refine⟨ay,λi f aC=>?_⟩;have aV:=(lW.1 aC).1;have aa:=hi i f aC;rw[du Z]at aa;exact⟨_,_,aa⟩
def ajv{x:DataW H×List MemPlace}(h:DataW.trod enc Tryz.prog W da gI held fK 88 cs=some x):∃ d:ak,cs=d.cells/\Cg (u9 W) d:=by obtain⟨dv,au,aC⟩:∃ dv,Tryz.prog.underlying 88=some (.struct dv)/\dv.toList.map (λf=>(f.type,f.offset))=[(5,0),(36,1),(9,5),(3,6),(3,7),(42,8)]:=P2 d4;obtain⟨ay,hi⟩:=XZ au h;have hi:∀ (i t o:Nat),[(5,0),(36,1),(9,5),(3,6),(3,7),(42,8)][i]?=some (t,o)->∃ fK y,DataW.trod enc Tryz.prog W da gI held fK t ((cs.drop o).take (Tryz.prog.cellsOf t))=some y:=XY (P:=Tryz.prog) aC hi;rw[show Tryz.prog.cellsOf 88=9 by kernel_rfl]at ay;obtain⟨Ch,fg,e1,js,Ce,Cf,Hx,P3,P4,rfl⟩:=ajs ay;obtain⟨_,_,ax⟩:=hi 0 _ _ rfl;obtain⟨_,_,aa⟩:=hi 1 _ _ rfl;obtain⟨_,_,ab⟩:=hi 2 _ _ rfl;obtain⟨_,_,al⟩:=hi 3 _ _ rfl;obtain⟨_,_,aL⟩:=hi 4 _ _ rfl;obtain⟨_,_,bB⟩:=hi 5 _ _ rfl;rw[show Tryz.prog.cellsOf 5=1 by kernel_rfl]at ax;rw[show Tryz.prog.cellsOf 36=4 by kernel_rfl]at aa;rw[show Tryz.prog.cellsOf 9=1 by kernel_rfl]at ab;rw[show Tryz.prog.cellsOf 3=1 by kernel_rfl]at al aL;rw[show Tryz.prog.cellsOf 42=1 by kernel_rfl]at bB;obtain⟨k,dC,ajw⟩:=Ci (show Tryz.prog.underlying 5=some (.int .u8) by kernel_rfl) ax;obtain⟨a,b,c,d,aN,jG,m8,oX,ke⟩:=aju aa;obtain⟨s,bc,-,ws⟩:=DataW.trod_string (show Tryz.prog.underlying 9=some .string by kernel_rfl) ab;obtain⟨lo,cy,wl⟩:=Ci (show Tryz.prog.underlying 3=some (.int .i64) by kernel_rfl) al;obtain⟨ck,dX,ajx⟩:=Ci (show Tryz.prog.underlying 3=some (.int .i64) by kernel_rfl) aL;obtain⟨bX,aA,b5,ao,k3,dM,eF,qD⟩:=ajq bB;simp at dC aN bc cy dX k3;obtain⟨ajy,ajz,ajA,ajB⟩:=aN;subst dC ajy ajz ajA ajB bc cy dX k3;exact⟨⟨k,a,b,c,d,s,lo,ck,bX,aA,b5,ao⟩,rfl,wf_u8 ajw,jG,m8,oX,ke,wf_i64 wl,wf_i64 ajx,dM,qD,by unfold maxLen at ws;omega⟩
def ajC{x:DataW H×List MemPlace}(h:DataW.trod enc Tryz.prog W da gI held fK 24 cs=some x):∃ t:bf,cs=t.cells/\vb (u9 W) t:=by obtain⟨dv,au,aC⟩:∃ dv,Tryz.prog.underlying 24=some (.struct dv)/\dv.toList.map (λf=>(f.type,f.offset))=[(22,0),(3,1)]:=P2 d4;obtain⟨ay,hi⟩:=XZ au h;have hi:∀ (i t o:Nat),[(22,0),(3,1)][i]?=some (t,o)->∃ fK y,DataW.trod enc Tryz.prog W da gI held fK t ((cs.drop o).take (Tryz.prog.cellsOf t))=some y:=XY (P:=Tryz.prog) aC hi;rw[show Tryz.prog.cellsOf 24=2 by kernel_rfl]at ay;obtain⟨Ch,fg,rfl⟩:=ajt ay;obtain⟨_,_,ax⟩:=hi 0 _ _ rfl;obtain⟨_,_,aa⟩:=hi 1 _ _ rfl;rw[show Tryz.prog.cellsOf 22=1 by kernel_rfl]at ax;rw[show Tryz.prog.cellsOf 3=1 by kernel_rfl]at aa;obtain⟨a,n,c,l,dC,dM,aE,bl,-,-⟩:=XT (f:=ak.cells) (size:=9) bv ak.cq (Cg (u9 W)) (show Tryz.prog.underlying 22=some (.slice 88) by kernel_rfl) d4 (λfK cs x h=>ajv h) ax;obtain⟨r,aN,wr⟩:=Ci (show Tryz.prog.underlying 3=some (.int .i64) by kernel_rfl) aa;simp at dC aN;subst dC aN;exact⟨⟨l,a,n,c,r⟩,rfl,dM,bl,wf_i64 wr⟩
def ajD{P:Program}{w:World}{r:Reach}{da t:Nat}(au:P.underlying t=some (.struct dv))(h:Value.okWide P w r da t v):∃ cs,v=.agg cs:=by obtain⟨cs,aa,-⟩:=Go.WideShapes.okWide_struct au h;exact⟨cs,aa⟩
end
def X0{H:Type}{enc:TypeId×Value->H}{P:Program}(ay:laidOutB P=true){W km:World}(af:Cd W km):∀ {ts:List TypeId} {vs:List Value} {ds:List (DataW H)} {ps:List MemPlace},(∀ t∈ts,P.readableRec t=true/\t<P.types.size) -> DataW.TrodAll enc P W 0 (λ_=>true) true ts vs ds ps->(∀ p∈ps,p.block<W.heap.size)->∀ gI:Nat->Bool,(∀ p∈ps,gI p.block=true)->DataW.TrodAll enc P km 0 gI true ts vs ds ps
 |[],[],[],_,_,h,_,_,_=>h
 |t::ts,v::vs,d::ds,_,au,⟨p,q,aa,ab,e⟩,aV,gI,aw=>by
  subst e;refine⟨p,q,?_,?_,rfl⟩
  ·refine Go.WideElems.Trod_stays ay (au t (.head _)).1 (au t (.head _)).2 aa (λx ae=>?_) (λx ae=>aw x (cW.2 (.inl ae)));have cF:=aV x (cW.2 (.inl ae));cases x with
   |cell b o=>exact World.cell?_of_block (w:=W) (af.dR b cF)| map b=>exact af.dR b cF
  ·exact X0 ay af (λt h=>au t (.tail _ h)) ab (λx ae=>aV x (cW.2 (.inr ae))) gI (λx ae=>aw x (cW.2 (.inr ae)))
def ajE:mapsRowed Tryz.prog=true:=by kernel_rfl
def ajF:Tryz.prog.stopsHeard=true:=by kernel_rfl
def ajG:Tryz.prog.mayEnter=true:=by kernel_rfl
section
variable{H:Type}{enc:TypeId×Value->H}
def X1{d:DataW H}(h:DataW.Trod enc Tryz.prog W 0 (λ_=>true) true 24 v d p)(an:Value.okWide Tryz.prog W .any da 24 v):∃ t:bf,v=t.val/\vb (u9 W) t:=by obtain⟨dv,au,-⟩:=P2 (P:=Tryz.prog) (t:=24) (l:=[(22,0),(3,1)]) d4;obtain⟨cs,rfl⟩:=ajD au an;obtain⟨fK,aC⟩:=h;obtain⟨g,e,az⟩:=ajC aC;refine⟨g,?_,az⟩;have cY:cs.toList=g.cells:=e;cases cs;simp only at cY;subst cY;rfl
end
section
end
section
variable{H:Type}{enc:TypeId×Value->H}
def ajH{d:DataW H}(h:DataW.Trod enc Tryz.prog W 0 (λ_=>true) true 5 v d p)(an:Value.okWide Tryz.prog W .any da 5 v):∃ i:Int,v=.int .u8 i/\0<=i/\i<256:=by
 have au:Tryz.prog.underlying 5=some (.int .u8):=by kernel_rfl
 obtain⟨n,rfl⟩:=Go.WideShapes.okWide_int au an;obtain⟨fK,aC⟩:=h;obtain⟨i,dC,hw⟩:=Ci au aC;have aN:[Value.int .u8 n]=[Value.int .u8 i]:=dC;simp only[wF,Value.int.injEq,true_and,and_true]at aN;subst aN;exact⟨n,rfl,wf_u8 hw⟩
end
theorem X2(I:aI)(c:UInt8):Spec Tryz.prog 336 [.int .u8 c.toNat] I [] (λv I' M'=>v=.bool (letter c)/\I'=I/\M'=[]):=by
 refine bR [] aT Tryz.func336 rfl rfl rfl ?_;intro B ax
 repeat' (refine bZ.mk (λh=>?_) (λh=>?_))
 all_goals
  refine⟨_,_,.refl,?_⟩;refine⟨?_,rfl,rfl⟩;simp_all[letter]
  all_goals first
   |omega|(rw[my];simp;omega)
theorem ajI(I:aI)(c:UInt8):Spec Tryz.prog 337 [.int .u8 c.toNat] I [] (λv I' M'=>v=.bool (digit c)/\I'=I/\M'=[]):=by
 refine bR [] aT Tryz.func337 rfl rfl rfl ?_;intro B ax
 repeat' (refine bZ.mk (λh=>?_) (λh=>?_))
 all_goals
  refine⟨_,_,.refl,?_⟩;refine⟨?_,rfl,rfl⟩;simp_all[digit]
  all_goals first
   |omega|(rw[my];simp;omega)
def ajJ(I:aI)(s:ByteArray)(aw:s.size<=140737488355328):Spec Tryz.prog 310 [.string s] I [] (λv I' M'=>v=.string (s.extract 0 (mG s))/\I'=I/\M'=[]):=by
 refine bR [] aT Tryz.func310 rfl rfl rfl ?_;intro B ax;have dC:∀ {s:ByteArray},mG s=0->s.extract 0 (mG s)=⟨#[]⟩:=λh=>by rw[h];apply tr;simp[GS]
 refine bZ.mk (λh=>?_) (λh=>?_)
 ·have aa:s≠⟨#[]⟩:=by simpa using h
  have kB:0<s.size:=by refine Nat.pos_of_ne_zero λe=>aa ?_;apply tr;exact GR e
  refine oL.mk 0 rfl kB ?_;refine a9.mk [] [] _ (.refl _) (X2 I s[0]) ?_;rintro v I' M' -⟨rfl,rfl,rfl⟩;refine aS.mk (λh=>?_) (λh=>?_)
  ·have ay:letter s[0]=false:=by simpa using h
   refine⟨_,_,.refl,?_,rfl,rfl⟩;rw[dC]
   ·unfold mG;cases aj:s.data.toList with
    |nil=>rfl
    |cons c r=>
     have:s[0]=c:=by show s.data.toList[0]=c;simp only[aj];rfl
     rw[this]at ay;simp[ay]
  ·have ay:letter s[0]=true:=by simpa using h
   refine c2.inv (ι:=Nat) (λi=>{ bn:=[(0,.val (.string s)),(3,.val (.int .i64 i))],cm:=I' }) (λi=>i<=s.size/\∀ j (h:j<s.size),1<=j->j<i->mF s[j]=true) (λi=>s.size-i) ?_ ?_;·exact⟨0,⟨Z,λj _ aa ab=>Z⟩,.refl,tl,.nil⟩
   ·rintro i⟨hs,h8⟩;have X3:mF s[0]=true:=by simp[mF,ay]
    have next:∀ (aV:i<s.size),mF s[i]=true->(i+1<=s.size/\∀ k (h:k<s.size),1<=k->k<i+1->mF s[k]=true)/\s.size-(i+1)<s.size-i:=λaV ar=>
     ⟨⟨Z,λj ai aa ab=>by
      by_cases e:j=i;·subst e;exact ar
      ·exact h8 j ai aa Z⟩,Z⟩
    have out:(∀ (h:i<s.size),mF s[i]=false)->s.extract 0 i=s.extract 0 (mG s):=λaE=>by
     have fp:1<=i:=by apply Nat.one_le_iff_ne_zero.2;intro e;subst e;rw[aE kB]at X3;cases X3
     rw[WG kB ay fp hs h8 aE]
    have dy:(s.extract 0 i).size<=140737488355328:=by rw[Kw];omega
    have gA:IntKind.i64.wrap ((i:Int)+1)=((i+1:Nat):Int):=by rw[wrap_i64 ⟨Z,Z⟩];omega
    refine bZ.mk (λh=>?_) (λh=>?_)
    ·have aV:i<s.size:=by simpa using h
     refine oL.mk i rfl aV ?_;refine a9.mk [] [] _ (.refl _) (X2 I' s[i]) ?_;rintro v I' M' -⟨rfl,rfl,rfl⟩;refine bZ.mk (λh=>?_) (λh=>?_)
     ·refine oL.mk i rfl aV ?_;refine a9.mk [] [] _ (.refl _) (ajI _ s[i]) ?_;rintro v I' M' -⟨rfl,rfl,rfl⟩;refine aS.mk (λab=>?_) (λab=>?_)
      ·refine a3.mk _ gA ?_;exact⟨i+1,next aV abs,.refl,tl,.nil⟩
      ·refine j7.mk 0 i rfl rfl Z Z ?_;refine⟨_,_,.refl,?_,rfl,rfl⟩;rw[<-out λ_=>rx]
     ·refine a3.mk _ gA ?_;exact⟨i+1,next aV ab',.refl,tl,.nil⟩
    ·have cM:¬ i<s.size:=by simpa using h
     refine j7.mk 0 i rfl rfl Z Z ?_;refine⟨_,_,.refl,?_,rfl,rfl⟩;rw[<-out λh=>(cM h).elim]
 ·have aa:s=⟨#[]⟩:=by simpa using h
  subst aa;refine⟨_,_,.refl,?_,rfl,rfl⟩;rw[dC];rfl
def ajK(I:aI)(s:ByteArray):Spec Tryz.prog 243 [.string s] I [] (λv I' M'=>v=.bool (kF s)/\I'=I/\M'=[]):=by
 refine bR [] aT Tryz.func243 rfl rfl rfl ?_;intro B ax;refine bZ.mk (λaa=>?_) (λaa=>?_)
 ·refine bZ.mk (λab=>?_) (λab=>?_)
  ·have hn:s.size<=32:=by simp at ab;omega
   refine a9.mk [] [] _ (.refl _) (ajJ I s Z) ?_;rintro v I' M' -⟨rfl,rfl,rfl⟩;refine⟨_,_,.refl,?_,rfl,rfl⟩;have bo:=WH s;have aN:(s.extract 0 (mG s)).size=mG s:=by rw[Kw];omega
   have bc:decide (s.extract 0 (mG s)=s)=decide (mG s=s.size):=by
    rw[Ei];constructor;·intro h;rw[<-aN,h]
    ·intro h;rw[h];apply tr;simp[GS]
   have hz:decide (s≠⟨#[]⟩)=true:=by simpa using aa
   simp only[kF,hz,m5,show decide (s.size<=32)=true from hM hn,<-bc]
  ·refine⟨_,_,.refl,?_,rfl,rfl⟩;have hz:decide (s≠⟨#[]⟩)=true:=by simpa using aa
   have hn:decide (s.size<=32)=false:=by simp at ab;simp;omega
   simp only[kF,hz,hn,m5,GX]
 ·refine⟨_,_,.refl,?_,rfl,rfl⟩;have hz:decide (s≠⟨#[]⟩)=false:=by simpa using aa
  simp only[kF,hz,GX]
def vc:eC 0:=⟨bv,bv⟩
def i0:hy 0:=⟨bv,bv⟩
def X4{d:ak}(aj:d.ok I):Spec Tryz.prog 108 [d.val] I [] λv I' M'=>(∀ b o,I b=some o->I' b=some o)/\∃ t:bf,v=t.val/\t.ok I'/\t.ns=[d]/\t.bp=0/\M'=[]:=by refine bR [] aT Tryz.func108 rfl rfl rfl ?_;intro B ax;refine bN.mk λb ah uO=>?_;refine⟨_,_,.nG rfl am .refl,l9 ah,⟨[d],some ⟨b,0,none⟩,1,1,0⟩,rfl,⟨⟨rfl,⟨cf _,by show 1*96<=_;omega⟩,.inr ⟨_,rfl,rfl,_,_,_,o3 ..,rfl⟩⟩,λx ae=>?_,i0⟩,rfl,rfl,rfl⟩;simp only[ep]at ae;subst ae;exact aj.mono (l9 ah)
def Cj(k:Int)(s:ByteArray):ak:=⟨k,0,0,0,0,s,0,0,none,0,0,[]⟩
def ajL{k:Int}(af:0<=k/\k<256){s:ByteArray}(aw:s.size<=140737488355328):(Cj k s).ok I:=
 ⟨af,vc,vc,vc,vc,by show s.size<=_;omega,i0,i0,⟨rfl,⟨cf _,by show 0*8<=_;omega⟩,.inl rfl⟩,λx ae=>wt⟩
def ajM:Spec Tryz.prog 105 [] I [] λv I' M'=>(∀ b o,I b=some o->I' b=some o)/\∃ t:bf,v=t.val/\t.ok I'/\t.ns=[Cj 0 ⟨#[]⟩]/\t.bp=0/\M'=[]:=by refine bR [] aT Tryz.func105 rfl rfl rfl ?_;intro B ax;have ay:=X4 (I:=I) (ajL (k:=0) (s:=⟨#[]⟩) bv bv);have an:(Cj 0 ⟨#[]⟩).val=.agg #[.int .u8 0,.int .u64 0,.int .u64 0,.int .u64 0,.int .u64 0,.string ⟨#[]⟩,.int .i64 0,.int .i64 0,.slice none 0 0]:=rfl;rw[an]at ay;refine a9.mk [] [] _ (.refl _) ay ?_;rintro v I' M' -⟨bG,t,rfl,au,aa,ab,rfl⟩;exact⟨_,_,.refl,bG,t,rfl,au,aa,ab,rfl⟩
def vd(d:ak):Bool:=decide (d.t=⟨#[]⟩)&&(decide (d.lo=0)&&decide (d.hi=0))
def ajN(d:ak)(n:Int):Bool:=
 bif decide (d.k=0)then vd d&&decide (n=0)else
 bif decide (d.k=1)then vd d&&decide (n=0)else
 bif decide (d.k=2)then decide (d.lo=0)&&(decide (d.hi=0)&&(decide (n=0)&&(decide ((1:Int)<=d.t.size)&&decide ((d.t.size:Int)<=255))))else
 bif decide (d.k=3)then decide (d.lo=0)&&(decide (d.hi=0)&&(decide (n=0)&&kF d.t))else
 bif decide (d.k=4)||decide (d.k=5)then vd d&&decide (2<=n)else
 bif decide (d.k=6)then decide (d.t=⟨#[]⟩)&&(decide (n=1)&&(decide (0<=d.lo)&&(decide (d.lo<=99)&&(decide (d.hi=-1)||(decide (d.lo<=d.hi)&&decide (d.hi<=99))))))else
 bif decide (d.k=7)||decide (d.k=8)then vd d&&decide (n=1)else
 bif decide (d.k=9)then decide (d.lo=0)&&(decide (d.hi=0)&&(decide (n=1)&&kF d.t))else false
def HB(z:Bool)(d:ak)(n:Int):Bool:=
 bif decide (d.k=0)then z&&(vd d&&decide (n=0))else
 bif decide (d.k=1)then vd d&&decide (n=0)else
 bif decide (d.k=2)then z&&(decide (d.lo=0)&&(decide (d.hi=0)&&(decide (n=0)&&(decide ((1:Int)<=d.t.size)&&decide ((d.t.size:Int)<=255)))))else
 bif decide (d.k=3)then z&&(decide (d.lo=0)&&(decide (d.hi=0)&&(decide (n=0)&&kF d.t)))else
 bif decide (d.k=4)||decide (d.k=5)then z&&(vd d&&decide (2<=n))else
 bif decide (d.k=6)then z&&(decide (d.t=⟨#[]⟩)&&(decide (n=1)&&(decide (0<=d.lo)&&(decide (d.lo<=99)&&(decide (d.hi=-1)||(decide (d.lo<=d.hi)&&decide (d.hi<=99)))))))else
 bif decide (d.k=7)||decide (d.k=8)then z&&(vd d&&decide (n=1))else
 bif decide (d.k=9)then z&&(decide (d.lo=0)&&(decide (d.hi=0)&&(decide (n=1)&&kF d.t)))else false
def ajO(s:ByteArray):decide (s=⟨#[]⟩)=decide (s.size=0):=by
 rw[my];simp only[gN];constructor
 ·rintro rfl;rfl
 ·intro h;cases s with
  |mk d=>have:d.size=0:=h;simp[GR this]
theorem ajP{d:ak}(af:0<=d.k/\d.k<256)(n:Int):HB d.jW d n=fits d n:=by
 by_cases oZ:10<=d.k
 ·have e:fits d n=false:=by simp[fits,oZ]
  rw[e];unfold HB;have h:∀ j:Int,j<10->decide (d.k=j)=false:=λj ai=>by simp;omega
  rw[h 0,h 1,h 2,h 3,h 4,h 5,h 6,h 7,h 8,h 9]<;>first | rfl | omega
 have z5:d.k=0\/d.k=1\/d.k=2\/d.k=3\/d.k=4\/d.k=5\/d.k=6\/d.k=7\/d.k=8\/d.k=9:=by omega
 generalize bg:d.jW=z;have dy:=ajO d.t;have ajQ:(d.t=ByteArray.empty) ↔ d.t.size=0:=by rw[<-Ei];exact dy
 rcases z5 with h | h | h | h | h | h | h | h | h | h<;>rw[my]<;>simp[HB,fits,h,bg,vd,oe,nc,jl,ajQ]<;>cases z<;>first | (simp;done) | grind
def fm.X5{P:Program}{E:Env}(aQ:cX P E){t:Nat}{aH:dV}(au:E t=some dd)(dA:dd.bM=.array 4 e)(he:E e=some aH){k:IntKind}(jV:aH.bM=.int k)(az:P.eqGuardType P.depth t=false){fO cO en ev od b1 b8 eo:Int}{V:Value->Prop}(z:Bool)(bg:(fO == od&&(cO == b1&&(en == b8&&ev == eo)))=z)(h:V (.bool z)):fm P .eql t x y (.val (.agg #[.int k fO,.int k cO,.int k en,.int k ev])) (.val (.agg #[.int k od,.int k b1,.int k b8,.int k eo])) V other:=
 .KF aQ au dA he jV az (by rw[bg];exact h)
theorem ajR{d:ak}(af:0<=d.k/\d.k<256)(n:Int):Spec Tryz.prog 240 [d.val,.int .i64 n] I []
  (λv I' M'=>v=.bool (fits d n)/\I'=I/\M'=[]):=by
 rw[<-ajP af];obtain⟨k,b0,s1,s2,cg,s,lo,hi,bX,aA,b5,ao⟩:=d;clear af;refine bR [] aT Tryz.func240 rfl rfl rfl ?_;intro B ax;obtain⟨z,bg⟩:∃ z,ak.jW ⟨k,b0,s1,s2,cg,s,lo,hi,bX,aA,b5,ao⟩=z:=⟨_,rfl⟩;rw[bg];refine fm.X5 aT (e:=34) rfl rfl rfl rfl d4 z bg ?_
 repeat' (first
  |refine bZ.mk (λh=>?_) (λh=>?_)| refine aS.mk (λh=>?_) (λh=>?_)| refine fm.X5 aT (e:=34) rfl rfl rfl rfl d4 z bg ?_|(refine a9.mk [] [] _ (.refl _) (ajK _ s) ?_;rintro v I' M' -⟨rfl,rfl,rfl⟩))
 all_goals clear bg
 all_goals first
  |(refine⟨_,_,.refl,?_,rfl,rfl⟩;simp_all[HB,vd];done)|(refine⟨_,_,.refl,?_,rfl,rfl⟩;simp_all[HB,vd];omega)|(exfalso;simp_all;done)|(exfalso;simp_all;omega)| skip
def z6(b:Bool):Int:=bif b then 1 else 0
def X6{i:Nat}:∀ {ks:List Int} {s:List Bool} {k:Int},k∈ks->(k<0\/(i:Int)<=k)->jm i ks s=none
 |a::ks,s,k,af,h=>by
  unfold jm;cases ah:decide (a<0)||(decide ((i:Int)<=a)||s.getD a.toNat false)with
  |true=>rfl
  |false=>
   simp only[cw];simp only[rq,pN]at ah;rcases ez.1 af with rfl | af
   ·rcases h with h | h
    ·exact(ah.1 h).elim
    ·exact(ah.2.1 h).elim
   ·exact X6 af h
def Lb{bp:Int}:∀ {s:List Bool} {i j:Nat},j<s.length->(s.getD j false == decide (((i+j:Nat):Int)=bp))=true->pQ bp i s=false
 |b::s,i,0,_,h=>by unfold pQ;rw[show(b == decide ((i:Int)=bp))=true by simpa using h];rfl
 |b::s,i,j+1,ai,h=>by
  unfold pQ;cases b == decide ((i:Int)=bp)with
  |true=>rfl| false=>simp only[cw];refine Lb (j:=j) mt ?_;rw[show i+1+j=i+(j+1) by omega];simpa using h
def P5{bp:Int}:∀ {s:List Bool} {i:Nat},(∀ j,j<s.length->(s.getD j false == decide (((i+j:Nat):Int)=bp))=false)->pQ bp i s=true
 |[],i,h=>rfl| b::s,i,h=>by unfold pQ;have ax:=h 0 am;rw[show(b == decide ((i:Int)=bp))=false by simpa using ax];simp only[cw];refine P5 λj ai=>?_;have:=h (j+1) mt;rw[show i+1+j=i+(j+1) by omega];simpa using this
structure HC(t:bf)(P:List Int)(W:Int):Prop where
 len:P.length=t.ns.length
 tH:∀ c∈P,0<=c/\c<=W
def lK(t:bf)(P:List Int)(bq:List Bool->Option (List Bool)):Prop:=
 (∃ s:List Bool,s.length=t.ns.length/\P=s.map z6/\ho 0 t.ns (List.replicate t.ns.length false)=bq s) \/
 (ho 0 t.ns (List.replicate t.ns.length false)=none/\∃ k,k<t.ns.length/\2<=P.getD k 0)
def tI(t:bf)(i:Nat)(s:List Bool):Option (List Bool):=ho i (t.ns.drop i) s
def wK(t:bf)(i:Nat)(d:ak)(k:Nat)(s:List Bool):Option (List Bool):=match jm i (d.ao.drop k) s with
 |some cr=>ho (i+1) (t.ns.drop (i+1)) cr| none=>none
def P6(h:ho 0 t.ns (List.replicate t.ns.length false)=none):right t=false:=by simp[right,h]
def lK.start(t:bf):lK t (List.replicate t.ns.length 0) (tI t 0):=
 .inl ⟨List.replicate t.ns.length false,am,by simp[z6],rfl⟩
def lK.enter(h:lK t P (tI t i))(hi:i<t.ns.length)(aC:fits t.ns[i] t.ns[i].ao.length=true):lK t P (wK t i t.ns[i] 0):=by
 rcases h with⟨s,aa,ab,al⟩ | h
 ·refine .inl ⟨s,aa,ab,?_⟩;rw[al,tI,e9 hi,ho,aC];rfl
 ·exact .inr h
def lK.ajS(h:lK t P (tI t i))(hi:i<t.ns.length)(aC:fits t.ns[i] t.ns[i].ao.length=false):right t=false:=by
 refine P6 ?_;rcases h with⟨s,aa,ab,al⟩ | h
 ·rw[al,tI,e9 hi,ho,aC];rfl
 ·exact h.1
def lK.out{k:Nat}{d:ak}(h:lK t P (wK t i d k))(af:k<d.ao.length)(aC:d.ao[k]<0\/(i:Int)<=d.ao[k]):right t=false:=by
 refine P6 ?_;rcases h with⟨s,aa,ab,al⟩ | h
 ·rw[al,wK,X6 (k:=d.ao[k]) (by rw[e9 af];exact .head _) aC]
 ·exact h.1
def lK.k4{k:Nat}{d:ak}(ay:P.length=t.ns.length)(hi:i<=t.ns.length)(h:lK t P (wK t i d k))(af:k<d.ao.length)(ax:0<=d.ao[k])(aa:d.ao[k]<i) :
  lK t (P.set d.ao[k].toNat (P.getD d.ao[k].toNat 0+1)) (wK t i d (k+1)):=by
 have cL:d.ao[k].toNat<P.length:=by omega
 rcases h with⟨s,bb,bh,b2⟩ | ⟨bb,j,bh,b2⟩
 ·have gJ:d.ao[k].toNat<s.length:=by omega
  have az:P.getD d.ao[k].toNat 0=z6 (s.getD d.ao[k].toNat false):=by rw[bh];simp[bP,gJ]
  cases ah:s.getD d.ao[k].toNat false with
  |false=>
   refine .inl ⟨s.set d.ao[k].toNat true,by simpa using bb,?_,?_⟩;·rw[az,ah,bh,qx];rfl
   ·rw[b2,wK,e9 af,jm,ah];simp only[Bool.or_false];rw[fb Z,fb Z];rfl
  |true=>
   refine .inr ⟨?_,d.ao[k].toNat,Z,?_⟩;·rw[b2,wK,e9 af,jm,ah];simp
   ·rw[az,ah];simp[bP,iq,cL,z6]
 ·refine .inr ⟨bb,j,bh,?_⟩;simp only[bP,iq]at b2 |-;by_cases e:d.ao[k].toNat=j
  ·subst e;simp[cL]at b2 |-;omega
  ·rw[bK e];exact b2
def lK.leave{k:Nat}{d:ak}(h:lK t P (wK t i d k))(af:d.ao.length<=k):lK t P (tI t (i+1)):=by
 rcases h with⟨s,aa,ab,al⟩ | h
 ·refine .inl ⟨s,aa,ab,?_⟩;rw[al,wK,l5 af];rfl
 ·exact .inr h
def HC.k4{W:Int}(h:HC t P W){k:Nat}(af:k<P.length):HC t (P.set k (P.getD k 0+1)) (W+1):=by
 refine⟨by simpa using h.len,λc ar=>?_⟩;have az:P.getD k 0∈P:=by simp only[bP,du af,kX];exact bD af
 have:=h.tH _ az;rcases sD ar with ar | rfl
 ·have:=h.tH c ar;omega
 ·omega
def wL(t:bf)(P:List Int)(i:Nat):Bool:=(decide ((i:Int)=t.bp) && !decide (P.getD i 0=0))||(!decide ((i:Int)=t.bp) && !decide (P.getD i 0=1))
theorem lK.bad(h:lK t P (tI t t.ns.length))(hi:i<t.ns.length)(aM:wL t P i=true):right t=false:=by
 rcases h with⟨s,aa,ab,al⟩ | h
 ·rw[tI,KV,ho]at al;have:pQ t.bp 0 s=false:=by
   refine Lb (j:=i) Z ?_;have az:P.getD i 0=z6 (s.getD i false):=by rw[ab];simp[bP,aa,hi]
   rw[wL,az]at aM;rw[dg];generalize s.getD i false=x at aM |-;cases x<;>cases aj:decide ((i:Int)=t.bp)<;>simp_all[z6]
  simp[right,al,this]
 ·exact P6 h.1
theorem lK.B9(h:lK t P (tI t t.ns.length))(ax:0<=t.bp/\t.bp<t.ns.length)(aM:∀ i,i<t.ns.length->wL t P i=false):right t=true:=by
 rcases h with⟨s,aa,ab,al⟩ | ⟨aa,k,ab,al⟩
 ·rw[tI,KV,ho]at al;have:pQ t.bp 0 s=true:=by
   refine P5 λi hi=>?_;have az:P.getD i 0=z6 (s.getD i false):=by rw[ab];simp[bP,hi]
   have rJ:=aM i Z;rw[wL,az]at rJ;rw[dg];generalize s.getD i false=x at rJ |-;cases x<;>cases aj:decide ((i:Int)=t.bp)<;>simp_all[z6]
  simp[right,al,this,ax.1,ax.2]
 ·have:=aM k ab;simp only[wL,rq,Pw,pN,Bool.not_eq_false',gN]at this;omega
def X7(au:t.ok I)(W:Nat)(hG:∀ d∈t.ns,d.aA<=W)(ah:t.n*W<=1152921504606846976):Spec Tryz.prog 171 [t.val] I [] λv I' M'=>v=.bool (right t)/\I'=I/\M'=[]:=by
 refine bR [] aT Tryz.func171 rfl rfl rfl ?_;intro B ax;have gu:=au.n;have g8:=au.a'.cap;refine bZ.mk (λh=>?_) (λh=>?_)
 rotate_left
 ·refine⟨_,_,.refl,?_,rfl,rfl⟩;have:t.bp<0:=by simpa using h
  rw[show right t=false by simp[right];omega]
 have og:0<=t.bp:=by have:=db h;omega
 refine aS.mk (λab=>?_) (λab=>?_)
 ·refine⟨_,_,.refl,?_,rfl,rfl⟩;have:=cv ab;rw[show right t=false by simp[right];omega]
 have hI:t.bp<t.n:=by have:=db ab;omega
 refine n9.mk t.n t.n rfl rfl (cf _) WP Z ?_;refine bN.mk λb1 iU HD=>?_;refine c2.inv (ι:=Nat×List Int) (λx=>{ bn:=[(1,.ref 1 0),(3,.val (.slice (some ⟨b1,0,none⟩) t.n t.n)),(4,.val (.int .i64 x.1))],cl:=[(1,t.cells)],cm:=I,cK:=[cV b1 x.2] }) (λx=>x.1<=t.n/\HC t x.2 (x.1*W:Nat)/\lK t x.2 (tI t x.1)) (λx=>t.n-x.1) ?_ ?_
 ·refine⟨(0,List.replicate t.n 0),⟨dh _,⟨by simp[gu],λc ar=>by have:=Hd ar;simp only;omega⟩,by rw[<-gu];exact lK.start t⟩,?_,e2,.cons rfl .nil⟩;simp only[xY,cV,xT,gm];exact .refl
 rintro⟨i,P⟩⟨hi,nh,dz⟩;simp only at hi nh dz;have tJ:=nh.len;refine aS.mk (λh=>?_) (λh=>?_)
 ·have aV:i<t.n:=by have:=cv h;omega
  have cF:i<t.ns.length:=by omega
  obtain⟨ad,bt,bj⟩:=au.a'.row ak.cq aV cF;have gr:t.ns[i]∈t.ns:=bD cF;have aj:=au.ns _ gr;have eF:=aj.aA;have ajT:=hG _ gr;have ajU:=aj.a'.cap;have ajV:(i+1)*W<=1152921504606846976:=iO (oJ W aV) ah;rw[kD,m6]at ajV;refine bi.mk ad i bt rfl aV ?_;refine aJ.mk _ (bj _) ?_;refine a9.mk [] _ _ (.refl _) (ajR aj.k t.ns[i].aA) ?_;rintro v ed dp -⟨rfl,rfl,rfl⟩;rw[<-eF];refine aS.mk (λal=>?_) (λal=>?_);·refine⟨_,_,.sub (eY _) .refl,?_,rfl,rfl⟩;rw[dz.ajS cF (by simpa using al)]
  have dz:=dz.enter cF (by simpa using al);generalize eZ:t.ns[i]=d at aj eF ajT ajU bj dz;refine c2.inv (ι:=Nat×List Int) (λx=>{ bn:=[(1,.ref 1 0),(3,.val (.slice (some ⟨b1,0,none⟩) t.n t.n)),(4,.val (.int .i64 i)),(5,.ref 5 0),(6,.val (.int .i64 x.1))],cl:=[(1,t.cells),(5,d.cells)],cm:=ed,cK:=[cV b1 x.2] }) (λx=>x.1<=d.aA/\HC t x.2 (i*W+x.1:Nat)/\lK t x.2 (wK t i d x.1)) (λx=>d.aA-x.1) ?_ ?_;·exact⟨(0,P),⟨dh _,nh,dz⟩,.refl,fh,.cons rfl (.cons rfl .nil)⟩
  rintro⟨k,Q⟩⟨af,kC,Ck⟩;simp only at af kC Ck;have X8:=kC.len;refine aS.mk (λaL=>?_) (λaL=>?_)
  ·have cL:k<d.aA:=by have:=cv aL;omega
   have ry:k<d.ao.length:=by omega
   obtain⟨fq,eN,eL⟩:=aj.a'.one cL ry;refine bi.mk fq k eN rfl cL ?_;refine aJ.mk _ (eL _) ?_;refine bZ.mk (λbB=>?_) (λbB=>?_)
   rotate_left
   ·refine⟨_,_,.sub (eY _) .refl,?_,rfl,rfl⟩;rw[Ck.out ry (.inl ayY)]
   have jH:0<=d.ao[k]:=by have:=db bB;omega
   refine bi.mk fq k eN rfl cL ?_;refine aJ.mk _ (eL _) ?_;refine aS.mk (λcA=>?_) (λcA=>?_);·refine⟨_,_,.sub (eY _) .refl,?_,rfl,rfl⟩;rw[Ck.out ry (.inr (cv cA))]
   have ki:d.ao[k]<i:=by have:=db cA;omega
   have HE:d.ao[k].toNat<Q.length:=by omega
   have awF:0<=Q[d.ao[k].toNat]/\Q[d.ao[k].toNat]<=(i*W+k:Nat):=kC.tH _ (bD HE);have ajW:Q.getD d.ao[k].toNat 0=Q[d.ao[k].toNat]:=by simp[bP,HE]
   have X9:=Ck.k4 X8 Z ry jH ki;have X':=kC.k4 HE;rw[ajW]at X9 X';refine bi.mk fq k eN rfl cL ?_;refine aJ.mk _ (eL _) ?_;refine bi.mk ⟨b1,0,none⟩ d.ao[k].toNat rfl Z Z ?_;refine aJ.mk _ (zM (s:=Q) (.head _) HE) ?_;refine a3.mk (Q[d.ao[k].toNat]+1) (iY rfl Z) ?_;refine bi.mk ⟨b1,0,none⟩ d.ao[k].toNat rfl Z Z ?_;refine b'.add [] [] _ _ rfl ?_ rfl ?_;·simp only[q6,bA];show 0+d.ao[k].toNat*1+1<=_;omega
   have e:=nO Q d.ao[k].toNat HE (Q[d.ao[k].toNat]+1);refine a3.mk _ (cC (i:=k) Z) ?_;refine⟨(k+1,Q.set d.ao[k].toNat (Q[d.ao[k].toNat]+1)),⟨⟨ce,?_,X9⟩,ce⟩,?_,fh,.cons rfl (.cons rfl .nil)⟩;·simp only;rw[show((i*W+(k+1):Nat):Int)=((i*W+k:Nat):Int)+1 by omega];exact X'
   ·simp only[cV];rw[<-e];simp only[dg,gm];exact .refl
  ·have cM:d.aA<=k:=by have:=db aL;omega
   refine a3.mk _ (cC (i:=i) Z) ?_;refine⟨(i+1,Q),⟨⟨ce,⟨X8,λc ar=>?_⟩,Ck.leave Z⟩,ce⟩,.refl,e2,.cons rfl .nil⟩;have:=kC.tH c ar;simp only[kD,m6];omega
 have cM:i=t.n:=by have:=db h;omega
 have HF:lK t P (tI t t.ns.length):=by rw[gu,<-cM];exact dz
 clear nh h hi dz;subst cM;refine c2.inv (ι:=Nat) (λx=>{ bn:=[(1,.ref 1 0),(3,.val (.slice (some ⟨b1,0,none⟩) t.n t.n)),(7,.val (.int .i64 x))],cl:=[(1,t.cells)],cm:=I,cK:=[cV b1 P] }) (λx=>x<=t.n/\∀ j,j<x->wL t P j=false) (λx=>t.n-x) ?_ ?_
 ·exact⟨0,⟨dh _,λj ai=>Z⟩,.refl,e2,.cons rfl .nil⟩
 rintro i⟨hi,aM⟩;refine aS.mk (λh=>?_) (λh=>?_)
 rotate_left
 ·have cM:i=t.n:=by have:=db h;omega
  refine⟨_,_,.sub (eY _) .refl,?_,rfl,rfl⟩;rw[HF.B9 ⟨og,Z⟩ λj ai=>aM j Z]
 have aV:i<t.n:=by have:=cv h;omega
 have Ya:i<P.length:=by omega
 have bj:cG I [cV b1 P] ((⟨b1,0,none⟩:Addr).add (i*1)) 1 [.int .i64 P[i]]:=zM (.head _) Ya;have az:P.getD i 0=P[i]:=by simp[bP,Ya]
 have Eu:wL t P i=true->right t=false:=HF.bad Z;have fy:wL t P i=false->∀ j,j<i+1->wL t P j=false:=λh j ai=>by
  by_cases e:j=i;·rw[e];exact h
  ·exact aM j Z
 rw[wL,az]at Eu fy;clear h aM HF;generalize P[i]=c at Eu fy bj;refine bZ.mk (λh=>?_) (λh=>?_)
 ·rw[h]at Eu fy;refine bi.mk ⟨b1,0,none⟩ i rfl rfl aV ?_;refine aJ.mk _ bj ?_;refine bZ.mk (λab=>?_) (λab=>?_)
  ·refine bZ.mk (λal=>?_) (λ_=>?_)
   ·exfalso;rw[h]at al;cases al
   ·refine a3.mk _ (cC (i:=i) Z) ?_;exact⟨i+1,⟨⟨Z,fy ah'⟩,Z⟩,.refl,e2,.cons rfl .nil⟩
  ·refine⟨_,_,.sub (eY _) .refl,?_,rfl,rfl⟩;rw[Eu ah']
 ·rw[show decide ((i:Int)=t.bp)=false from h]at Eu fy;refine bZ.mk (λal=>?_) (λal=>?_)
  ·refine bi.mk ⟨b1,0,none⟩ i rfl rfl aV ?_;refine aJ.mk _ bj ?_;refine aS.mk (λab=>?_) (λab=>?_)
   ·refine⟨_,_,.sub (eY _) .refl,?_,rfl,rfl⟩;rw[Eu ah']
   ·refine a3.mk _ (cC (i:=i) Z) ?_;exact⟨i+1,⟨⟨Z,fy ah'⟩,Z⟩,.refl,e2,.cons rfl .nil⟩
  ·exfalso;rw[show decide ((i:Int)=t.bp)=false from h]at al;cases al
structure Yb(I:aI)(a:Option Addr)(c:Nat)(k:Int)(s:ByteArray):Prop where
 a':cZ I a 1 c 9 96 (Cj k s).cells
def Yb.rd{k:Int}{s:ByteArray}(h:Yb I a c k s):∃ ad,a=some ad/\∀ M,cG I M (ad.add (0*9)) 9 (Cj k s).cells:=by have:=cZ.row (f:=ak.cells) (l:=[Cj k s]) ak.cq (size:=9) (j:=0) (by simpa using h.a') bv (cf 1);simpa using this
def bz.bO{o:Oper}{K:gx}(h:bz X o F C I M (λF C I M=>(M.map (·.num)).Nodup->(∀ x∈M,I x.num=none)->K F C I M)):bz X o F C I M K:=
 ⟨λa w Q aZ=>s' (λbT w'=>λ⟨df,C',I',M',⟨β,ag⟩,af⟩=>⟨df,C',I',M',⟨β,ag⟩,af ag.holds.bO ag.holds.d⟩) (h.1 a w Q aZ)⟩
def aO.z7{foot:List Nat}{b:Nat}(h:os.ok size xs)(ah:os.n*b<=140737488355328)(bG:∀ g,os.a=some g->I g=none/\g ∉ foot)(Mr:List aD) :
  ∃ I',(∀ ed dp,h5 foot I' Mr ed dp->h5 foot I (os.aq e++Mr) ed dp)/\(∀ b o,I b=some o->I' b=some o)/\cZ I' (os.a.map λg=>⟨g,0,none⟩) os.n os.c size b xs/\(∀ g,os.a≠some g->I' g=I g):=by
 obtain⟨a,n,c,aR⟩:=os;cases a with
 |none=>obtain⟨aa,ab⟩:=h.nil rfl;simp only at aa ab;subst aa;subst ab;exact⟨I,λ_ _ k=>k,λ_ _ h=>h,⟨h.len,⟨cf _,am⟩,.inl rfl⟩,λ_ _=>rfl⟩
 |some g=>obtain⟨aa,ab,al,aL⟩:=h.cap g rfl;obtain⟨az,ajX⟩:=bG g rfl;refine⟨ins I g (.cells aR.toArray e (0,0)),λ_ _ k=>.nG rfl ajX k,l9 az,⟨h.len,⟨ab,ah⟩,.inr ⟨⟨g,0,none⟩,rfl,rfl,_,_,_,o3 ..,AC⟩⟩,λet jF=>?_⟩;have:et≠g:=λe=>jF (by rw[e]);unfold ins;simp only[hT this,cw]
def P7{ys:List Value}(bV:os.ok size xs)(aF:ys.length=size)(aa:aR.length=c*size)(ab:os.n+1<=c)(al:c<=maxLen)(aL:aR.take ((os.n+1)*size)=xs++ys) :
  aO.ok ⟨some g,os.n+1,c,aR⟩ size (xs++ys):=by
 have ay:=bV.len;refine⟨?_,(λh=>ci),λb2 o4=>⟨aa,ab,al,aL⟩⟩;rw[ct,ay,aF];simp only;rw[kD,m6]
abbrev Lc:=bf×Int×ByteArray
def Lc.bO(x:Lc):ak:=Cj x.2.1 x.2.2
structure Lc.ok(I:aI)(x:Lc):Prop where
 t:x.1.ok I
 ns:x.1.ns=[x.bO]
 bp:x.1.bp=0
 fits:ajN x.bO 0=true
end Go.V
