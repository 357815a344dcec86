/- Part 3 of what the proofs of this seat share: the executor, data in memory, walks.
-/
import Derived.Test.YtafmlpfnapaghaaGreatDoorK2
import Derived.WideMake
import Derived.ChangeSame
import Derived.ChangeArms
import Derived.OpenShut
import Derived.Deep.DeepHandedRow
import Derived.Lib.LaidTab
import Derived.Test.YtafmlpfnapaghaaGreatDoorRows
import Derived.Test.YtafmlpfnapaghaaGreatDoorCards
import Derived.Test.YtafmlpfnapaghaaGreatDoorTie
import Derived.WalkKit
import Derived.ProofKit
set_option linter.all false
set_option maxHeartbeats 8000000
namespace Go.V
open Go Go.Proofs
def bQ:=@Nat.zero_le
def dk:=@decide_eq_false
def eD:=@decide_eq_true
def kn:=@Option.some.inj
def rO:=@List.length_take_of_le
def m1:=@List.length_set
def AN:=@ByteArray.size_append
def xp:=@List.foldl_append
def CQ:=@List.sublist_append_left
def CR:=@MapKept.run_getObj_map
def AO:=@List.replicate_succ
def sS:=@List.map_map
def CS:=@Int.ofNat_eq_natCast
def CT:=@MapKept.run_checkKey
def CU:=@MapKept.run_findKey
def yT:=@Bool.and_false
def Ft:=@List.mem_of_mem_take
def CV:=@List.flatMap_nil
def IZ:=@Bool.and_eq_false_iff
def CW:=@List.cons.injEq
def Fu:=@List.all_eq_false
def MX:=@List.perm_append_singleton
def I0:=@List.getLast?_concat
def I1:=@List.dropLast_concat
def I2:=@Bool.not_eq_false'
def Fv:=@List.all_append
def MY:=@MapKept.run_setObj_map
def CX:=@List.sum_nil
def MZ:=@DataW.trod_string
def M2:=@List.flatten_cons
def M3:=@List.not_mem_nil
def M4:=@DataW.trod_array
def M5:=@List.sum_append
variable{d:aH}{P:Program}{t:bx}{x y:Operand}{I I':aT}{i j t1 t2 t3 k size sz:Nat}{deb:List Int}{g:bP}{w:Bool}{F:Fr}{C:c8}{M:List aD}{vs xs:List Value}{α:Type}{X:cO}{c:Code}{s:ByteArray}{dr sT:dW}{l:List (ByteArray×Int)}{v:Value}{os:aY}{m:List Bool}{L:List (List Int)}{W ko:World}{rows:List (List Value)}
structure I3(d:aH):Prop where
 k:d.k<10
 t:d.t.size<=255
 CY:d.k=6->0<=d.lo/\d.lo<=99/\(d.hi=-1\/(d.lo<=d.hi/\d.hi<=99))
def CZ{n:Int}(h:fits d n=true):I3 d:=by
 unfold fits at h;cases U:decide (10<=d.k)with
 |true=>rw[U]at h;cases h
 |false=>
  rw[U]at h;simp only[bz]at h;have af:d.k<10:=by simpa using U
  cases ab:(decide (n<xj d.k.toNat)||(decide (0<=tI d.k.toNat)&&decide (tI d.k.toNat<n)))with
  |true=>rw[ab]at h;cases h
  |false=>
   rw[ab]at h;simp only[bz]at h;have c9:d.t=⟨#[]⟩->d.t.size<=255:=λe=>by rw[e];decide
   cases ak:decide (d.k=1)with
   |true=>rw[ak]at h;simp only[bt,b',fk]at h;exact⟨af,c9 h.1,λe=>by simp at ak;omega⟩
   |false=>
    rw[ak]at h;simp only[bz]at h;cases aL:decide (d.k=2)with
    |true=>rw[aL]at h;simp only[bt,b',tp,qB,rA]at h;exact⟨af,by omega,λe=>by simp at aL;omega⟩
    |false=>
     rw[aL]at h;simp only[bz]at h;cases bm:(decide (d.k=3)||decide (d.k=9))with
     |true=>rw[bm]at h;simp only[bt,b']at h;refine⟨af,?_,λe=>by simp at bm;omega⟩;have:=h.1;unfold h0 at this;simp only[b',fk]at this;omega
     |false=>
      rw[bm]at h;simp only[bz]at h;cases b5:decide (d.k=6)with
      |true=>
       rw[b5]at h;simp only[bt,b',fk,tp,qB,rA,IZ]at h;refine⟨af,c9 h.2.2,λ_=>?_⟩;obtain⟨⟨a6,bb,b0⟩,_⟩:=h;refine⟨by omega,by omega,?_⟩;rcases b0 with b0 | b0
       ·left
        simpa using b0
       ·right
        omega
      |false=>rw[b5]at h;simp only[bz,b',fk]at h;exact⟨af,c9 h.2.1,λe=>by simp at b5;omega⟩
def Fw:List Value:=[.int .i64 0,.int .i64 1,.string ⟨#[63]⟩,.int .i64 0,.int .i64 (-1),.string ⟨#[42]⟩,.int .i64 1,.int .i64 (-1),.string ⟨#[43]⟩]
def M6(I:aT):Prop:=∃ T an,I 3=some (.cells Fw.toArray T an)
def tR(lo:Nat)(hi:Int):List UInt8:=
 bif decide (hi=lo)then [123]++hS lo++[125]else
 bif decide (hi=-1)then [123]++hS lo++[44,125]else [123]++hS lo++[44]++hS hi.toNat++[125]
def la(lo:Nat)(hi:Int):List UInt8:=
 bif decide ((0:Int)=lo)&&decide (1=hi)then [63]else
 bif decide ((0:Int)=lo)&&decide (-1=hi)then [42]else
 bif decide ((1:Int)=lo)&&decide (-1=hi)then [43]else tR lo hi
def aeE(lo:Nat)(hi:Int):(tR lo hi).length<=7:=by
 have U:=yP lo;have ab:=yP hi.toNat;unfold tR;cases decide (hi=lo)<;>cases decide (hi=-1)<;>simp<;>omega
def Ue(lo:Nat)(hi:Int):(la lo hi).length<=7:=by
 have U:=aeE lo hi;unfold la;cases(decide ((0:Int)=lo)&&decide (1=hi))<;>cases(decide ((0:Int)=lo)&&decide (-1=hi))<;>cases(decide ((1:Int)=lo)&&decide (-1=hi))<;>simp<;>omega
def Uf(n:Nat):(tO n).size<=2:=yP n
def pP(lo hi:Int):aH:=⟨6,0,0,0,0,⟨#[]⟩,lo,hi,none,0,0,[]⟩
def aeF{lo:Nat}{hi:Int}(gN:lo<=99)(ia:hi=-1\/((lo:Int)<=hi/\hi<=99)):fits (pP lo hi) 1=true:=by
 have aF:xj 6=1:=by decide
 have a7:tI 6=1:=by decide
 rcases ia with rfl | ⟨U,ab⟩
 ·simp[fits,pP,aF,a7,aH.oS];exact⟨dk (by omega),dk (by omega)⟩
 ·simp[fits,pP,aF,a7,aH.oS];exact⟨dk (by omega),dk (by omega),.inr ⟨dk (by omega),dk (by omega)⟩⟩
def Ug(a b:List UInt8):strOf a++strOf b=strOf (a++b):=by apply yO;simp[strOf]
def cx.eW{t:Nat}{a b:List UInt8}(ar:a.length+b.length<=9223372036854775807){V:Value->Prop}{other:Prop}(h:V (.string (strOf (a++b)))):cx P .add t x y (.val (.string (strOf a))) (.val (.string (strOf b))) V other:=
 cx.concat (a:=strOf a) (b:=strOf b) ar (by rw[Ug];exact h)
def aeG(aC:qI I)(aN:M6 I)(lo:Nat)(hi:Int)(gN:lo<=99)(ia:hi=-1\/((lo:Int)<=hi/\hi<=99)):Spec Tryz.prog 219 [.int .i64 lo,.int .i64 hi] I []
  λr I' M'=>r=.string (strOf (la lo hi))/\I'=I/\M'=[]:=by
 refine bn [] aI Tryz.func219 rfl rfl rfl ?_;intro B av;have bM:(pP lo hi).ok I:=⟨by simp[pP],by simp[pP,e5],by simp[pP,e5],by simp[pP,e5],by simp[pP,e5],by show(0:Nat)<=_;omega,⟨by simp only[pP];omega,by simp only[pP];omega⟩,⟨by simp only[pP];omega,by simp only[pP];omega⟩,⟨rfl,⟨b2 _,by simp[pP]⟩,.inl rfl⟩,by simp[pP]⟩;refine aU.mk [] [] _ (.refl _) (TN aC bM 1) ?_;rintro v I' M' -⟨rfl,rfl,rfl⟩;rw[aeF gN ia];refine aB.mk (λh=>by cases h) (λ_=>?_);have a3:bq I' ([]++[]) ⟨3,0,none⟩ 9 Fw:=by obtain⟨T,an,aN⟩:=aN;exact⟨rfl,_,T,an,.inl aN,rfl,rfl⟩
 refine aE.mk _ a3 ?_;refine bu.inv (ι:=Nat) (λi=>{ a4:=[(0,.val (.int .i64 lo)),(1,.val (.int .i64 hi)),(12,.val (.agg Fw.toArray)),(13,.val (.int .i64 i))],br:=I' }) (λi=>i<=3/\(1<=i->(decide ((0:Int)=lo)&&decide (1=hi))=false)/\(2<=i->(decide ((0:Int)=lo)&&decide (-1=hi))=false)/\(3<=i->(decide ((1:Int)=lo)&&decide (-1=hi))=false)) (λi=>3-i) ?_ ?_
 ·exact⟨0,⟨by simp,by simp,by simp,by simp⟩,.refl,cI,.nil⟩
 ·rintro i⟨hB,dw,m2,aeH⟩
  match i,hB with
  |0,_=>
   refine aB.mk (λ_=>?_) (λh=>by simp at h);refine eb.mk 0 rfl (by decide) ?_;have next:(decide ((0:Int)=lo)&&decide (1=hi))=false->(((0+1:Nat)<=3/\(1<=(0+1:Nat)->(decide ((0:Int)=lo)&&decide (1=hi))=false)/\(2<=(0+1:Nat)->(decide ((0:Int)=lo)&&decide (-1=hi))=false)/\(3<=(0+1:Nat)->(decide ((1:Int)=lo)&&decide (-1=hi))=false))/\3-(0+1)<3-0):=λh=>by
    refine⟨⟨by simp,λ_=>?_,λcj=>?_,λcj=>?_⟩,by simp⟩;·exact h
    ·simp at cj
    ·simp at cj
   refine a9.mk (λa6=>?_) (λa6=>?_)
   ·refine aB.mk (λbb=>?_) (λbb=>?_)
    ·refine⟨_,_,.refl,?_,rfl,rfl⟩;have:la lo hi=[63]:=by unfold la;rw[a6,bb];rfl
     rw[this];rfl
    ·refine aQ.mk 1 (by decide) ?_;exact⟨1,next (by rw[a6,bb];rfl),.refl,cI,.nil⟩
   ·refine aQ.mk 1 (by decide) ?_;exact⟨1,next (by rw[a6];rfl),.refl,cI,.nil⟩
  |1,_=>
   refine aB.mk (λ_=>?_) (λh=>by simp at h);refine eb.mk 1 rfl (by decide) ?_;have next:(decide ((0:Int)=lo)&&decide (-1=hi))=false->(((1+1:Nat)<=3/\(1<=(1+1:Nat)->(decide ((0:Int)=lo)&&decide (1=hi))=false)/\(2<=(1+1:Nat)->(decide ((0:Int)=lo)&&decide (-1=hi))=false)/\(3<=(1+1:Nat)->(decide ((1:Int)=lo)&&decide (-1=hi))=false))/\3-(1+1)<3-1):=λh=>by
    refine⟨⟨by simp,λ_=>?_,λcj=>?_,λcj=>?_⟩,by simp⟩;·exact dw (by decide)
    ·exact h
    ·simp at cj
   refine a9.mk (λa6=>?_) (λa6=>?_)
   ·refine aB.mk (λbb=>?_) (λbb=>?_)
    ·refine⟨_,_,.refl,?_,rfl,rfl⟩;have:la lo hi=[42]:=by unfold la;rw[dw (by decide),a6,bb];rfl
     rw[this];rfl
    ·refine aQ.mk 2 (by decide) ?_;exact⟨2,next (by rw[a6,bb];rfl),.refl,cI,.nil⟩
   ·refine aQ.mk 2 (by decide) ?_;exact⟨2,next (by rw[a6];rfl),.refl,cI,.nil⟩
  |2,_=>
   refine aB.mk (λ_=>?_) (λh=>by simp at h);refine eb.mk 2 rfl (by decide) ?_;have next:(decide ((1:Int)=lo)&&decide (-1=hi))=false->(((2+1:Nat)<=3/\(1<=(2+1:Nat)->(decide ((0:Int)=lo)&&decide (1=hi))=false)/\(2<=(2+1:Nat)->(decide ((0:Int)=lo)&&decide (-1=hi))=false)/\(3<=(2+1:Nat)->(decide ((1:Int)=lo)&&decide (-1=hi))=false))/\3-(2+1)<3-2):=λh=>by
    refine⟨⟨by simp,λ_=>?_,λcj=>?_,λcj=>?_⟩,by simp⟩;·exact dw (by decide)
    ·exact m2 (by decide)
    ·exact h
   refine a9.mk (λa6=>?_) (λa6=>?_)
   ·refine aB.mk (λbb=>?_) (λbb=>?_)
    ·refine⟨_,_,.refl,?_,rfl,rfl⟩;have:la lo hi=[43]:=by unfold la;rw[dw (by decide),m2 (by decide),a6,bb];rfl
     rw[this];rfl
    ·refine aQ.mk 3 (by decide) ?_;exact⟨3,next (by rw[a6,bb];rfl),.refl,cI,.nil⟩
   ·refine aQ.mk 3 (by decide) ?_;exact⟨3,next (by rw[a6];rfl),.refl,cI,.nil⟩
  |3,_=>
   refine aB.mk (λh=>by simp at h) (λ_=>?_);have aF:=dw (by decide);have a7:=m2 (by decide);have bC:=aeH (by decide);have iU:la lo hi=tR lo hi:=by unfold la;rw[aF,a7,bC];rfl
   rw[iU];have tS:=Uf lo;have Ag:=Uf hi.toNat;have tS:=yP lo;refine aB.mk (λh=>?_) (λh=>?_);·refine aU.mk [] [] _ (.refl _) (IV lo (by omega)) ?_;rintro v I' M' -⟨rfl,rfl,rfl⟩;refine cx.eW (a:=[123]) (b:=hS lo) (by simp;omega) ?_;refine cx.eW (a:=[123]++hS lo) (b:=[125]) (by simp;omega) ?_;refine⟨_,_,.refl,?_,rfl,rfl⟩;rw[tR,h];rfl
   ·refine aB.mk (λk=>?_) (λk=>?_)
    ·refine aU.mk [] [] _ (.refl _) (IV lo (by omega)) ?_;rintro v I' M' -⟨rfl,rfl,rfl⟩;refine cx.eW (a:=[123]) (b:=hS lo) (by simp;omega) ?_;refine cx.eW (a:=[123]++hS lo) (b:=[44,125]) (by simp;omega) ?_;refine⟨_,_,.refl,?_,rfl,rfl⟩;rw[tR,h,k];rfl
    ·refine aU.mk [] [] _ (.refl _) (IV lo (by omega)) ?_;rintro v I' M' -⟨rfl,rfl,rfl⟩;have af:hi≠-1:=by simpa using k
     obtain⟨az,rfl⟩:=en (show 0<=hi by omega);have Ag:=yP az;refine cx.eW (a:=[123]) (b:=hS lo) (by simp;omega) ?_;refine cx.eW (a:=[123]++hS lo) (b:=[44]) (by simp;omega) ?_;refine aU.mk [] [] _ (.refl _) (IV az (by omega)) ?_;rintro v I' M' -⟨rfl,rfl,rfl⟩;refine cx.eW (a:=[123]++hS lo++[44]) (b:=hS az) (by simp;omega) ?_;refine cx.eW (a:=[123]++hS lo++[44]++hS az) (b:=[125]) (by simp;omega) ?_;refine⟨_,_,.refl,?_,rfl,rfl⟩;rw[tR,h,k];rfl
def tT:List (List UInt8):=[[],[],[],[],[],[],[],[],[],[],[],[],[],[32],[],[],[32,47,32],[],[],[],[],[38],[],[],[33],[],[],[60],[],[62]]
def h2(j:Nat):List UInt8:=tT.getD j []
def Fx(I:aT):Prop:=∃ T an,I 1=some (.cells (tT.map λl=>Value.string (strOf l)).toArray T an)
def Fx.rd(h:Fx I)(M:List aD)(aj:i+j<30):bq I M ((Addr.add ⟨1,0,none⟩ i).add j) 1 [.string (strOf (h2 (i+j)))]:=by
 obtain⟨T,an,h⟩:=h;rw[yS,dF _ rfl];refine⟨rfl,_,T,an,.inl h,?_,rfl⟩;have U:i+j<(tT.map λl=>Value.string (strOf l)).length:=by simp[tT];omega
 have ab:i+j<tT.length:=by simp[tT];omega
 simp only[cM];rw[dv U,nq,mi];simp[h2,bV,ab]
def Fy(j:Nat):(h2 j).length<=3:=by
 by_cases h:j<30
 ·have:∀ j:Fin 30,(h2 j.val).length<=3:=by decide
  exact this ⟨j,h⟩
 ·have:tT.length<=j:=by simp[tT];omega
  simp[h2,bV,this]
def kp(deb:List Int)(d:aH):List UInt8:=
 bif decide (d.k=0)||decide (d.k=2)then vD d.t else
 bif decide (d.k=1)then sR deb d.cF d.s1 d.s2 d.dt else
 bif decide (d.k=3)then d.t.data.toList else
 bif decide (d.k=9)then h2 27++d.t.data.toList++[58,32]else h2 (d.k.toNat*3)
def jN(d:aH):List UInt8:=bif decide (d.k=6)then la d.lo.toNat d.hi else h2 (d.k.toNat*3+2)
def M7(s:ByteArray):strOf s.data.toList=s:=yO (by simp[strOf])
def M8(aC:qI I)(aN:M6 I)(AP:Fx I)(al:d.ok I)(au:I3 d):Spec Tryz.prog 199 [d.val] I [] λr I' M'=>r=.string (strOf (jN d))/\I'=I/\M'=[]:=by
 refine bn [] aI Tryz.func199 rfl rfl rfl ?_;intro B av;refine aB.mk (λh=>?_) (λh=>?_)
 ·obtain⟨a6,bb,b0⟩:=au.CY (by simpa using h);have aF:d.lo=((d.lo.toNat:Nat):Int):=by omega
  have mS:=aeG aC aN d.lo.toNat d.hi (by omega) (by omega);rw[<-aF]at mS;refine aU.mk [] [] _ (.refl _) mS ?_;rintro v I' M' -⟨rfl,rfl,rfl⟩;refine⟨_,_,.refl,?_,rfl,rfl⟩;simp only[jN,h];rfl
 ·have af:=al.k;have ny:=au.k;refine eb.mk d.k.toNat (by omega) (by omega) ?_;refine aE.mk _ (AP.rd _ (by show d.k.toNat*3+2<30;omega)) ?_;refine⟨_,_,.refl,?_,rfl,rfl⟩;simp only[jN,h];rfl
def Uh(AL:rK I deb)(AP:Fx I)(al:d.ok I)(au:I3 d):Spec Tryz.prog 197 [d.val] I []
  λr I' M'=>r=.string (strOf (kp deb d))/\(∀ b o,I b=some o->I' b=some o)/\M'=[]:=by
 refine bn [] aI Tryz.func197 rfl rfl rfl ?_;intro B av;have af:=al.k;have ny:=au.k;have aq:=au.t;have lit:(decide (d.k=0)||decide (d.k=2))=true->kp deb d=vD d.t:=λh=>by simp only[kp,h];rfl
 refine aB.mk (λU=>?_) (λU=>?_)
 ·refine aB.mk (λ_=>?_) (λh=>by rw[U]at h;cases h);refine aU.mk [] [] _ (.refl _) (Ua d.t (by omega)) ?_;rintro v I' M' -⟨rfl,rfl,rfl⟩;refine⟨_,_,.refl,?_,λ_ _ h=>h,rfl⟩;rw[lit (by rw[U];rfl)]
 ·refine aB.mk (λab=>?_) (λab=>?_)
  ·refine aU.mk [] [] _ (.refl _) (Ua d.t (by omega)) ?_;rintro v I' M' -⟨rfl,rfl,rfl⟩;refine⟨_,_,.refl,?_,λ_ _ h=>h,rfl⟩;rw[lit (by rw[ab];simp)]
  ·refine aB.mk (λak=>?_) (λak=>?_)
   ·refine aU.mk [] [] _ (.refl _) (aeD AL (a:=d.cF) (b:=d.s1) (c:=d.s2) (d:=d.dt) (λx ae=>by
     simp only[ea,M3,or_false]at ae;rcases ae with rfl | rfl | rfl | rfl;·exact al.cF
     ·exact al.s1
     ·exact al.s2
     ·exact al.dt)) ?_
    rintro v I' M' -⟨rfl,cg,rfl⟩;refine⟨_,_,.refl,?_,cg,rfl⟩;simp only[kp,U,ab,ak];rfl
   ·refine aB.mk (λaL=>?_) (λaL=>?_)
    ·refine⟨_,_,.refl,?_,λ_ _ h=>h,rfl⟩;simp only[kp,U,ab,ak,aL];rw[<-M7 d.t];rfl
    ·refine aB.mk (λbm=>?_) (λbm=>?_)
     ·have M9:d.k=9:=by simpa using bm
      refine cr.draw aI rfl rfl rfl ?_;refine eb.mk 9 M9 (by decide) ?_;refine aE.mk _ (AP.rd _ (by decide)) ?_;have eu:(strOf (h2 27)).size=1:=by decide
      refine cx.concat (a:=strOf (h2 27)) (b:=d.t) (by omega) ?_;refine cx.concat (a:=strOf (h2 27)++d.t) (b:=strOf [58,32]) (by rw[AN];show _+2<=_;omega) ?_;refine⟨_,_,.refl,?_,λ_ _ h=>h,rfl⟩;simp only[kp,U,ab,ak,aL,bm];refine congrArg Value.string (yO ?_);simp[strOf]
     ·refine eb.mk d.k.toNat (by omega) (by omega) ?_;refine aE.mk _ (AP.rd _ (by show d.k.toNat*3+0<30;omega)) ?_;refine⟨_,_,.refl,?_,λ_ _ h=>h,rfl⟩;simp only[kp,U,ab,ak,aL,bm];rfl
def fD(aa:List aH)(k:Int):Int:=(aa.map (·.k)).getD k.toNat 0
def paren(w:Bool)(s:List UInt8):List UInt8:=(bif w then [40]else [])++(s++(bif w then [41]else []))
def n'(sep:List UInt8)(f:Int->List UInt8):Bool->List Int->List UInt8
 |_,[]=>[]| b,k::ks=>(bif b then sep else [])++(f k++n' sep f true ks)
def oa(d:aH):List UInt8:=h2 (d.k.toNat*3+1)
def xq(deb:List Int)(aa:List aH)(d:aH)(g:Int->List UInt8):List UInt8:=
 kp deb d++(n' (oa d) (λk=>paren (fI d.k (fD aa k)) (g k)) false d.kids++jN d)
def fX(deb:List Int)(aa:List aH):Int->List UInt8:=oU [] (xq deb aa) aa
def ij(deb:List Int)(t:bx):List UInt8:=bif right t then fX deb t.aa t.root else []
def Ui{sep:List UInt8}{f g:Int->List UInt8}:∀ {ks:List Int} {b:Bool},(∀ k∈ks,f k=g k)->n' sep f b ks=n' sep g b ks
 |[],b,_=>rfl| k::ks,b,h=>by unfold n';rw[h k (by simp),Ui λx ae=>h x (by simp[ae])]
def Fz(ag:right t=true)(aj:j<t.aa.length):fX deb t.aa j=xq deb t.aa t.aa[j] (fX deb t.aa):=by refine AI (λd g dh h=>?_) ag aj;unfold xq;rw[Ui λk af=>by rw[h k af]]
def aeI(w:Bool)(s:List UInt8):(paren w s).length<=s.length+2:=by cases w<;>simp[paren]
def Uj{sep:List UInt8}{f:Int->List UInt8}(ar:sep.length<=3){g:Int->Nat}(au:∀ k,(f k).length+3<=g k):∀ {ks:List Int} {b:Bool},(n' sep f b ks).length<=eV g ks
 |[],b=>by simp[n',eV]
 |k::ks,b=>by
  have U:=Uj ar au (ks:=ks) (b:=true);have ab:=au k;unfold n';simp only[cz,eV,cZ,n4]at U |-;cases b<;>simp<;>omega
def Na(deb:List Int)(au:I3 d):(kp deb d).length<=2400:=by
 have U:(vD d.t).length<=2+4*d.t.size:=by have:=AM (iB · n9) 4 (λc=>rJ c n9) d.t.data.toList;have ab:d.t.data.toList.length=d.t.size:=rfl;simp only[vD,cz,cS,dI];omega
 have ab:=aeC deb d.cF d.s1 d.s2 d.dt;have ak:=au.t;have aL:=Fy 27;have bm:=Fy (d.k.toNat*3);have b5:d.t.data.toList.length=d.t.size:=rfl;unfold kp;cases(decide (d.k=0)||decide (d.k=2))<;>cases decide (d.k=1)<;>cases decide (d.k=3)<;>cases decide (d.k=9)<;>simp only[bt,bz,cz,cS,dI]<;>omega
def I4(d:aH):(jN d).length<=7:=by
 have U:=Ue d.lo.toNat d.hi;have ab:=Fy (d.k.toNat*3+2);unfold jN;cases decide (d.k=6)<;>simp only[bt,bz]<;>omega
def I5{α:Type}(c:Nat):∀ l:List α,(l.map λ_=>c).sum=c*l.length
 |[]=>by simp
 |x::l=>by rw[cZ,n4,I5 c l,cS,II];omega
def Uk(ag:right t=true):(fX deb t.aa t.root).length+5<=2412*t.aa.length:=by
 have h:=MP ag (g:=λk=>(fX deb t.aa k).length+5) (c:=λ_=>2412) λj aj=>by rw[Fz ag aj];have U:=Na deb (CZ (tM ag aj));have ab:=I4 t.aa[j];have ak:=Uj (sep:=oa t.aa[j]) (Fy _) (f:=λk=>paren (fI t.aa[j].k (fD t.aa k)) (fX deb t.aa k)) (g:=λk=>(fX deb t.aa k).length+5) (λk=>by have:=aeI (fI t.aa[j].k (fD t.aa k)) (fX deb t.aa k);omega) (ks:=t.aa[j].kids) (b:=false);unfold xq;simp only[cz];omega
 rw[I5]at h;exact h
def I6(deb:List Int)(t:bx):(ij deb t).length<=2412*t.aa.length:=by
 unfold ij;cases ag:right t with
 |false=>simp| true=>have:=Uk (deb:=deb) ag;simp only[bt];omega
abbrev Open:=Nat×Nat×Bool
def m3(e:Open):List Value:=[.int .i64 e.1,.int .i64 e.2.1,.bool e.2.2]
def nodeAt(aa:List aH)(j:Nat):aH:=aa.getD j ⟨0,0,0,0,0,.empty,0,0,none,0,0,[]⟩
def Nb(deb:List Int)(aa:List aH)(d:aH)(k:Int):List UInt8:=paren (fI d.k (fD aa k)) (fX deb aa k)
def ob(deb:List Int)(aa:List aH)(e:Open):List UInt8:=bif decide ((e.2.1:Int)=0)then(bif e.2.2 then [40]else [])++kp deb (nodeAt aa e.1)else []
def tU(deb:List Int)(aa:List aH)(e:Open):List UInt8:=
 ob deb aa e++(n' (oa (nodeAt aa e.1)) (Nb deb aa (nodeAt aa e.1)) (decide (0<(e.2.1:Int))) ((nodeAt aa e.1).kids.drop e.2.1)++(jN (nodeAt aa e.1)++(bif e.2.2 then [41]else [])))
def yU(aa:List aH):Int->Nat:=oU 0 (λd g=>2+eV g d.kids) aa
def nA(aa:List aH)(e:Open):Nat:=1+eV (yU aa) ((nodeAt aa e.1).kids.drop e.2.1)
def vE(aa:List aH)(b4:List Open):Nat:=(b4.map (nA aa)).sum
def tV(deb:List Int)(aa:List aH)(b4:List Open):List UInt8:=b4.reverse.flatMap (tU deb aa)
def AQ(deb:List Int)(aa:List aH)(b4:List Open)(e:Open):tV deb aa (b4++[e])=tU deb aa e++tV deb aa b4:=by simp[tV]
def rP(aa:List aH)(b4:List Open)(e:Open):vE aa (b4++[e])=vE aa b4+nA aa e:=by simp[vE]
def Ul(aa:List aH):∀ b4:List Open,b4.length<=vE aa b4
 |[]=>by simp
 |e::b4=>by have:=Ul aa b4;simp only[vE,cZ,n4,cS,nA]at this |-;omega
def jO{aa:List aH}(h:j<aa.length):nodeAt aa j=aa[j]:=by simp[nodeAt,bV,h]
def Um{g dh:Int->Nat}{ks:List Int}(h:∀ k∈ks,g k=dh k):eV g ks=eV dh ks:=by unfold eV;rw[rC h]
def Un(ag:right t=true)(aj:j<t.aa.length):yU t.aa j=2+eV (yU t.aa) t.aa[j].kids:=
 AI (λd g dh h=>by rw[Um h]) ag aj
def aeJ(ag:right t=true):yU t.aa t.root<=2*t.aa.length:=by
 have:=MP ag (g:=yU t.aa) (c:=λ_=>2) λj aj=>by rw[Un ag aj];exact b2 _
 rwa [I5]at this
def Uo(ag:right t=true)(aj:j<t.aa.length)(w:Bool):tU deb t.aa (j,0,w)=paren w (fX deb t.aa j):=by rw[Fz ag aj];simp only[tU,ob,jO aj];cases w<;>simp[paren,xq,Nb]<;>rfl
def Up(ag:right t=true)(aj:j<t.aa.length)(w:Bool):nA t.aa (j,0,w)+1=yU t.aa j:=by rw[Un ag aj];simp[nA,jO aj];omega
def Nc(ag:right t=true)(aj:j<t.aa.length)(hi:i<t.aa[j].kids.length) :
  tU deb t.aa (j,i,w)=ob deb t.aa (j,i,w)++((bif decide (0<(i:Int))then oa t.aa[j]else [])++(tU deb t.aa (t.aa[j].kids[i].toNat,0,fI t.aa[j].k (fD t.aa t.aa[j].kids[i]))++tU deb t.aa (j,i+1,w))):=by
 have af:=h1 ag j aj _ (bJ hi);rw[Uo ag (by omega)];have aF:(((t.aa[j].kids[i].toNat:Nat):Int))=t.aa[j].kids[i]:=yA af.1;rw[aF];have al:=dv hi;simp only[tU,jO aj];rw[al];have a7:ob deb t.aa (j,i+1,w)=[]:=by have:decide (((i+1:Nat):Int)=0)=false:=dk (by omega);simp only[ob,this,bz]
 have bC:decide (0<((i+1:Nat):Int))=true:=eD (by omega);rw[a7,bC];simp only[n',Nb,fx,hO]
def Nd(ag:right t=true)(aj:j<t.aa.length){w':Bool}(hi:i<t.aa[j].kids.length):nA t.aa (j,i+1,w)+nA t.aa (t.aa[j].kids[i].toNat,0,w')+1=nA t.aa (j,i,w):=by
 have af:=h1 ag j aj _ (bJ hi);have U:=Up ag (j:=t.aa[j].kids[i].toNat) (by omega) w';have aF:(((t.aa[j].kids[i].toNat:Nat):Int))=t.aa[j].kids[i]:=yA af.1;rw[aF]at U;have al:=dv hi;have bC:nA t.aa (j,i,w)=1+eV (yU t.aa) (t.aa[j].kids.drop i):=by simp[nA,jO aj]
 have di:nA t.aa (j,i+1,w)=1+eV (yU t.aa) (t.aa[j].kids.drop (i+1)):=by simp[nA,jO aj]
 rw[bC,di,al];simp only[eV,cZ,n4];omega
def Nf(aj:j<t.aa.length)(hi:t.aa[j].kids.length<=i):tU deb t.aa (j,i,w)=ob deb t.aa (j,i,w)++(jN t.aa[j]++(bif w then [41]else [])):=by simp only[tU,jO aj,iW hi];rfl
def C0{d:Nat}{x:de}(h:F d=x):fA F d x=F:=by
 funext t;unfold fA;cases e:Nat.beq t d with
 |false=>rfl| true=>have:=dD e;subst this;exact h.symm
def aeK{d:Nat}{x:Option (List Value)}(h:C d=x):iQ C d x=C:=by
 funext t;unfold iQ;cases e:Nat.beq t d with
 |false=>rfl| true=>have:=dD e;subst this;exact h.symm
def C1:Code->Code
 | .scope c=>c
 | .seq a b=>match C1 a with
  | .skip=>C1 b| c=>c
 |_=>.skip
def I7(c:Code)(l:Nat):Code:=(findLabel c l).getD .skip
def cu.yS{b:Nat}{K:List aD->Prop}(pre post:List aD)(cs:Array Value)(T:Nat)(aV:M=pre++⟨b,.cells cs T (0,0)⟩::post)(ah:i+j+vs.length<=cs.size)(U:gh vs=true)
  (h:K (pre++⟨b,.cells (bG cs.toList (i+j) vs).toArray T (0,0)⟩::post)):cu M (((⟨b,0,none⟩:Addr).add i).add j) vs K:=by
 rw[Go.V.yS];refine cu.add pre post cs T aV (by omega) U ?_;rw[cM];exact h
structure fr(I:aT)(deb:List Int):Prop where
 c:qI I
 p:M6 I
 s:Fx I
 d:rK I deb
def Ng(a b c:α)(L:List α):(a::b::(L++[c])).Perm ([b,c]++(a::L)):=
 (List.Perm.swap b a _).trans (((((MX c L).cons a)).trans (List.Perm.swap c a L)).cons b)
def Nh(pre:List Value)(a b c z:Value)(rest:List Value):bG (pre++([a,b,c]++rest)) (pre.length+1) [z]=pre++([a,z,c]++rest):=by have:=T9 pre a b z (c::rest) _ rfl;exact this
def fr.mono(h:fr I deb)(cg:∀ b o,I b=some o->I' b=some o):fr I' deb:=by obtain⟨⟨aeL,f1,U⟩,⟨AR,f2,ab⟩,⟨aeM,f3,ak⟩,⟨aL,bm,Ni,f4,b5⟩⟩:=h;exact⟨⟨aeL,f1,cg _ _ U⟩,⟨AR,f2,cg _ _ ab⟩,⟨aeM,f3,cg _ _ ak⟩,⟨aL,bm,Ni,f4,cg _ _ b5⟩⟩
def oY(b4:List Open):List Value:=b4.flatMap m3
def FA(b4:List Open):(oY b4).length=b4.length*3:=gd m3 3 (λ_=>rfl) b4
def AS(b4:List Open)(e:Open):oY (b4++[e])=oY b4++[.int .i64 e.1,.int .i64 e.2.1,.bool e.2.2]:=by simp[oY,m3]
abbrev FB:=fQ×aY×List Open×aT
def Uq(t:bx)(g:Nat)(x:FB):tC:={ a4:=[(1,.ref 1 0),(3,.val (ptr g)),(4,.val x.2.1.val)],cl:=[(1,t.cells)],br:=x.2.2.2,bO:=x.2.1.aw 246++x.1.M g }
structure I8(dM:aT)(deb:List Int)(t:bx)(x:FB):Prop where
 le:∀ b o,dM b=some o->x.2.2.2 b=some o
 ok:x.1.ok
 os:x.2.1.ok 3 (oY x.2.2.1)
 ne:x.2.2.1≠[]
 aqz:∀ e∈x.2.2.1,e.1<t.aa.length
 aqA:x.1.bd++tV deb t.aa x.2.2.1=fX deb t.aa t.root
 FC:vE t.aa x.2.2.1<=2*t.aa.length
set_option maxRecDepth 4000 in
def Ur{dM:aT}(bA:fr dM deb)(aq:t.ok dM)(ag:right t=true)(az:t.n<=1024){g:Nat}{p:Nat->Nat×FB->Prop}(x:FB)(ae:I8 dM deb t x)(aN:∀ y,I8 dM deb t y->vE t.aa y.2.2.1<vE t.aa x.2.2.1->p 0 (g,y))(B:Nat)(av:World)(G:Fr)(oc:c8) :
  V ⟨Tryz.prog,lH,[3],Tryz.f177.ntmps,B,av,dM,[],none⟩ (I7 (C1 (Tryz.f177.body.getD .skip)) 0) (fA (fA (fA G 4 (.val x.2.1.val)) 3 (.val (ptr g))) 1 (.ref 1 0)) (iQ oc 1 (some t.cells)) x.2.2.2 (x.2.1.aw 246++x.1.M g)
   (IJ (λl=>n1 [] (λy=>Uq t y.1 y.2) (p l)) (tD ⟨Tryz.prog,lH,[3],Tryz.f177.ntmps,B,av,dM,[],none⟩ Tryz.f177.results.toList
    (λr I' M'=>r=.string (strOf (fX deb t.aa t.root))/\(∀ b o,dM b=some o->I' b=some o)/\M'=[]))):=by
 obtain⟨x,⟨hp,n,eK,cur⟩,b4,bR⟩:=x;obtain⟨hle,FD,bf,bB,c1,nB,sU⟩:=ae;simp only at hle FD bf bB c1 nB sU aN |-;have m4:=bA.mono hle;have pQ:=aq.mono hle;have kI:=aq.n;obtain⟨hG,⟨j,i,w⟩,rfl⟩:∃ hG e,b4=hG++[e]:=by
  rcases xb b4 with h | ⟨r,e,h⟩;·exact(bB h).elim
  ·exact⟨r,e,by simpa using h⟩
 have fY:hG.length+1=n:=by have U:=bf.len;rw[FA]at U;simp at U;omega
 have aj:j<t.aa.length:=c1 (j,i,w) (by simp);have jA:j<t.n:=by omega
 cases hp with
 |none=>have:=(bf.nil rfl).1;simp only at this;omega| some cD=>
 obtain⟨cv,ml,kJ,dJ⟩:=bf.cap cD rfl;simp only at cv ml kJ dJ;have gV:(oY hG).length=(n-1)*3:=by rw[FA];omega
 obtain⟨rest,lN⟩:∃ rest,cur=oY hG++([.int .i64 j,.int .i64 i,.bool w]++rest):=by refine⟨cur.drop (n*3),?_⟩;have ab:=rB (n*3) cur;rw[dJ,AS,fx]at ab;exact ab.symm
 have aeN:cur[(n-1)*3+0]?=some (.int .i64 j):=by rw[lN,<-gV,pI (by omega)];simp
 have rQ:cur[(n-1)*3+1]?=some (.int .i64 i):=by rw[lN,<-gV,pI (by omega)];simp
 have dY:cur[(n-1)*3+2]?=some (.bool w):=by rw[lN,<-gV,pI (by omega)];simp
 have oZ:=Uk (deb:=deb) ag;have e8:x.bd.length<=2412*t.aa.length:=by have:=congrArg List.length nB;rw[cz]at this;omega
 have Us:=Ul t.aa (hG++[(j,i,w)]);simp only[cz,cS,dI]at Us;have fz:=pQ.aa t.aa[j] (bJ aj);have eR:=fz.aZ;have k7:=CZ (tM ag aj);obtain⟨ad,ba,a3⟩:=pQ.aJ.row aH.bI jA aj;rw[AQ]at nB;rw[rP]at sU aN Us;have jk:IntKind.i64.wrap ((n:Int)-1)=((n-1:Nat):Int):=by rw[wrap_i64 ⟨by omega,by omega⟩];omega
 refine aQ.mk (((n-1:Nat)):Int) jk ?_;refine aW.mk ⟨cD,0,none⟩ (n-1) rfl rfl (by show n-1<n;omega) ?_;refine cr.draw aI rfl rfl rfl ?_;refine aE.mk [.int .i64 j] (mZ (b:=cD) (cs:=cur) (T:=246) (by simp[aY.aw]) aeN) ?_;refine aW.mk ad j ba rfl jA ?_;refine aE.mk _ (a3 _) ?_;refine bL.mk λb6 FE Nj=>?_;refine cu.mk [] (⟨cD,.cells cur.toArray 246 (0,0)⟩::x.M g) _ _ rfl rfl (b9 rfl) rfl ?_;refine aE.mk [.int .i64 i] (mZ (b:=cD) (cs:=cur) (T:=246) (by simp[aY.aw]) rQ) ?_;refine aB.mk (λU=>?_) (λU=>?_)
 ·refine aE.mk [.bool w] (mZ (b:=cD) (cs:=cur) (T:=246) (by simp[aY.aw]) dY) ?_;refine aB.mk (λab=>?_) (λab=>?_)
  ·refine aU.mk (x.M g) [⟨b6,.cells t.aa[j].cells.toArray 61 (0,0)⟩,⟨cD,.cells cur.toArray 246 (0,0)⟩] _ (gQ (l₁:=[_,_])) (oV g FD 40 (by omega)) ?_;rintro v dG ew -⟨rfl,rfl,y,aA,gA,rfl⟩;have k9:y.bd.length<=2412*t.aa.length+1:=by rw[gA];simp;omega
   refine aE.mk _ (dj (T:=61) (b:=b6) (cs:=t.aa[j].cells) (k:=0) (n:=9) (by simp) (b9 rfl)) ?_;refine aU.mk [] (y.M g++[⟨b6,.cells t.aa[j].cells.toArray 61 (0,0)⟩,⟨cD,.cells cur.toArray 246 (0,0)⟩]) _ (by simp) (Uh m4.d m4.s fz k7) ?_;rintro v dG ew -⟨rfl,ed,rfl⟩;have iC:∀ b o,dM b=some o->dG b=some o:=λb o h=>ed _ _ (hle _ _ h);have tW:=Na deb k7;refine aU.mk (y.M g) [⟨b6,.cells t.aa[j].cells.toArray 61 (0,0)⟩,⟨cD,.cells cur.toArray 246 (0,0)⟩] _ (by simp) (tN g aA _ (by show _+(kp deb t.aa[j]).length<=_;omega)) ?_;rintro v gJ qE -⟨rfl,rfl,u,hu,xm,rfl⟩;have rR:u.bd=x.bd++ob deb t.aa (j,i,w):=by rw[xm,gA];simp only[ob,U,ab,jO aj,bt,bz];simp[strOf]
   have Ud:u.bd.length<=2412*t.aa.length+2401:=by rw[rR,cz];simp only[ob,U,ab,jO aj,bt,bz,cz,cS,dI];omega
   have kO:=bA.mono iC;have pR:=aq.mono iC;have qM:=pR.aa t.aa[j] (bJ aj);have FF:∀ {k m:Nat},k+m<=9->bq gJ (u.M g++[⟨b6,.cells t.aa[j].cells.toArray 61 (0,0)⟩,⟨cD,.cells cur.toArray 246 (0,0)⟩]) ((⟨b6,0,none⟩:Addr).add k) m ((t.aa[j].cells.drop k).take m):=λh=>dj (T:=61) (by simp) h;refine cr.draw aI rfl rfl rfl ?_;refine aE.mk [.int .i64 i] (mZ (b:=cD) (cs:=cur) (T:=246) (by simp[aY.aw]) rQ) ?_;refine aE.mk _ (FF (by decide)) ?_;refine aB.mk (λaf=>?_) (λaf=>?_)
   ·have cd:i<t.aa[j].aZ:=by simpa using af
    have lO:i<t.aa[j].kids.length:=by omega
    obtain⟨eU,eO,eB⟩:=qM.aJ.one cd lO;have e6:=h1 ag j aj _ (bJ lO);obtain⟨q,yV⟩:=en e6.1;have ee:q<t.aa.length:=by omega
    have kP:q<t.n:=by omega
    obtain⟨iD,lb,rS⟩:=pR.aJ.row aH.bI kP ee;have ld:∀ M,bq gJ M ((iD.add (q*9)).add 0) 1 [.int .u8 t.aa[q].k]:=λM=>(rS M).part (k:=0) (m:=1) (by decide);have pS:fD t.aa ((q:Nat):Int)=t.aa[q].k:=by simp[fD,bV,ee]
    have iE:=Nc (deb:=deb) ag aj (w:=w) lO;have qN:=Nd ag aj (w:=w) (w':=fI t.aa[j].k t.aa[q].k) lO;rw[yV]at iE qN;simp only[CS,lz]at iE qN;rw[pS]at iE;have eT:IntKind.i64.wrap ((i:Int)+1)=((i+1:Nat):Int):=by have:=qM.aJ.cap;rw[wrap_i64 ⟨by omega,by omega⟩];omega
    have c4:bG cur ((n-1)*3+1) [.int .i64 ((i+1:Nat):Int)]=oY hG++([.int .i64 j,.int .i64 ((i+1:Nat):Int),.bool w]++rest):=by rw[lN,<-gV];exact Nh _ _ _ _ _ _
    have FG:aY.ok ⟨some cD,n,eK,bG cur ((n-1)*3+1) [.int .i64 ((i+1:Nat):Int)]⟩ 3 (oY (hG++[(j,i+1,w)])):=by
     rw[c4,AS];refine⟨by simp only[cz,cS,dI];omega,(λh=>by cases h),λb0 _=>⟨?_,ml,kJ,?_⟩⟩;·simp only;rw[<-cv,lN];simp
     ·simp only;rw[<-fx];refine pJ ?_;simp only[cz,cS,dI];omega
    refine aE.mk [.int .i64 i] (mZ (b:=cD) (cs:=cur) (T:=246) (by simp[aY.aw]) rQ) ?_;refine aB.mk (λa2=>by simp at U a2;omega) (λa2=>?_);refine cr.draw aI rfl rfl rfl ?_;refine aE.mk _ (dj (T:=61) (b:=b6) (cs:=t.aa[j].cells) (k:=8) (n:=1) (by simp) (b9 rfl)) ?_;refine aE.mk [.int .i64 i] (mZ (b:=cD) (cs:=cur) (T:=246) (by simp[aY.aw]) rQ) ?_;refine aW.mk eU i eO rfl cd ?_;refine aE.mk [.int .i64 (q:Nat)] (by have fP:=eB;rw[yV]at fP;exact fP _) ?_;refine aE.mk [.int .i64 i] (mZ (b:=cD) (cs:=cur) (T:=246) (by simp[aY.aw]) rQ) ?_;refine aQ.mk ((i+1:Nat):Int) eT ?_;refine cu.yS (u.M g++[⟨b6,.cells t.aa[j].cells.toArray 61 (0,0)⟩]) [] cur.toArray 246 (by simp[aY.aw]) ?_ rfl ?_;·simp only[jZ];show(n-1)*3+1+1<=_;omega
    refine cr.draw aI rfl rfl rfl ?_;refine aE.mk [.int .u8 t.aa[j].k] (dj (T:=61) (b:=b6) (cs:=t.aa[j].cells) (k:=0) (n:=1) (by simp) (b9 rfl)) ?_;refine aW.mk iD q lb rfl kP ?_;refine aE.mk [.int .u8 t.aa[q].k] (ld _) ?_;refine e7.mk _ (MR t.aa[j].k t.aa[q].k) ?_;rintro v yW rF -⟨rfl,rfl,rfl⟩;refine bL.mk λbT h3 iF=>?_;refine bk.append aI rfl (by simp) (e:=246) rfl rfl rfl ⟨some cD,n,eK,bG cur ((n-1)*3+1) [.int .i64 ((i+1:Nat):Int)]⟩ (xs:=oY (hG++[(j,i+1,w)])) FG rfl (m:=1) rfl (news:=m3 (q,0,fI t.aa[j].k t.aa[q].k)) (by decide) (dj (b:=bT) (cs:=m3 (q,0,fI t.aa[j].k t.aa[q].k)) (k:=0) (n:=3) (T:=246) (.head _) (b9 rfl)) rfl (Mr:=⟨bT,.cells (m3 (q,0,fI t.aa[j].k t.aa[q].k)).toArray 246 (0,0)⟩::(u.M g++[⟨b6,.cells t.aa[j].cells.toArray 61 (0,0)⟩])) (by exact gQ (l₁:=(⟨bT,.cells (m3 (q,0,fI t.aa[j].k t.aa[q].k)).toArray 246 (0,0)⟩:aD)::(u.M g++[⟨b6,.cells t.aa[j].cells.toArray 61 (0,0)⟩])) (l₂:=[⟨cD,.cells (bG cur ((n-1)*3+1) [.int .i64 ((i+1:Nat):Int)]).toArray 246 (0,0)⟩])) (by show n+1<=_;simp only[maxLen];omega) (by show(n+1)*24<=_;omega) ?_;intro dh c' fi c5 c7 dS eP;refine⟨(g,u,⟨some dh,n+1,c',fi⟩,hG++[(j,i+1,w)]++[(q,0,fI t.aa[j].k t.aa[q].k)],_),aN _ ⟨iC,hu,⟨?_,(λh=>by cases h),λb0 _=>⟨c5,c7,dS,?_⟩⟩,by simp,?_,?_,?_⟩ ?_,.perm (M1:=[⟨bT,.cells (m3 (q,0,fI t.aa[j].k t.aa[q].k)).toArray 246 (0,0)⟩,⟨b6,.cells t.aa[j].cells.toArray 61 (0,0)⟩]++(⟨dh,.cells fi.toArray 246 (0,0)⟩::u.M g)) (Ng _ _ _ _) (.sub (e' _ _) .refl),cU,.cons rfl .nil⟩;·show _=(n+1)*3;rw[FA];simp;omega
    ·show fi.take ((n+1)*3)=_;rw[AS (hG++[(j,i+1,w)])];exact eP
    ·intro e he;simp only[dm,fb]at he;rcases he with(he | rfl) | rfl
     ·exact c1 e (by simp[he])
     ·exact aj
     ·exact ee
    ·simp only;rw[AQ,AQ,rR,<-nB,iE];rw[show decide (0<(i:Int))=false from a2];simp
    ·simp only;rw[rP,rP];omega
    ·simp only;rw[rP,rP];omega
   ·have cd:t.aa[j].kids.length<=i:=by simp at af;omega
    have iE:=Nf (deb:=deb) aj (w:=w) cd;have nt:=I4 t.aa[j];refine aE.mk _ (dj (T:=61) (b:=b6) (cs:=t.aa[j].cells) (k:=0) (n:=9) (by simp) (b9 rfl)) ?_;refine aU.mk [] (u.M g++[⟨b6,.cells t.aa[j].cells.toArray 61 (0,0)⟩,⟨cD,.cells cur.toArray 246 (0,0)⟩]) _ (.refl _) (M8 kO.c kO.p kO.s qM k7) ?_;rintro v yW rF -⟨rfl,rfl,rfl⟩;refine aU.mk (u.M g) [⟨b6,.cells t.aa[j].cells.toArray 61 (0,0)⟩,⟨cD,.cells cur.toArray 246 (0,0)⟩] _ (by simp) (tN g hu _ (by show _+(jN t.aa[j]).length<=_;omega)) ?_;rintro v C2 Ut -⟨rfl,rfl,a,aX,g6,rfl⟩;have Uu:a.bd.length<=2412*t.aa.length+2410:=by rw[g6,cz];show _+(jN t.aa[j]).length<=_;omega
    refine aE.mk [.bool w] (mZ (b:=cD) (cs:=cur) (T:=246) (by simp[aY.aw]) dY) ?_;refine aB.mk (λhw=>?_) (λhw=>?_)
    ·subst hw;refine aU.mk (a.M g) [⟨b6,.cells t.aa[j].cells.toArray 61 (0,0)⟩,⟨cD,.cells cur.toArray 246 (0,0)⟩] _ (by simp) (oV g aX 41 (by omega)) ?_;rintro v I9 Uv -⟨rfl,rfl,c,aC,iU,rfl⟩;refine aQ.mk (((n-1:Nat)):Int) jk ?_;refine jv.mk 0 (n-1) rfl rfl (bQ _) (by show n-1<=eK;omega) ?_;refine aB.mk (λa2=>?_) (λa2=>?_)
     ·have fW:0<n-1:=by simp at a2;omega
      refine⟨(g,c,⟨some cD,n-1,eK,cur⟩,hG,_),aN _ ⟨iC,aC,⟨?_,(λh=>by cases h),λb0 _=>⟨cv,by show n-1<=eK;omega,kJ,?_⟩⟩,?_,λe he=>c1 e (by simp[he]),?_,?_⟩ ?_,.perm (M1:=[⟨b6,.cells t.aa[j].cells.toArray 61 (0,0)⟩]++(⟨cD,.cells cur.toArray 246 (0,0)⟩::c.M g)) (gQ (l₂:=[_,_])) (.sub (e' _ _) .refl),cU,.cons rfl .nil⟩;·exact gV
      ·show cur.take ((n-1)*3)=_;rw[lN,<-gV];exact pJ rfl
      ·intro h;simp only at h;rw[h]at fY;simp at fY;omega
      ·simp only;rw[iU,g6,rR,<-nB,iE];simp[strOf]
      ·simp only;omega
      ·simp only[nA];omega
     ·have fW:n-1=0:=by simp at a2;omega
      have tX:hG=[]:=hZ (by omega);have od:c.bd=fX deb t.aa t.root:=by rw[iU,g6,rR,<-nB,iE,tX];simp[tV,strOf]
      refine aU.mk (c.M g) [⟨b6,.cells t.aa[j].cells.toArray 61 (0,0)⟩,⟨cD,.cells cur.toArray 246 (0,0)⟩] _ (by simp) (xl g aC (by rw[od];omega)) ?_;rintro v xr FH -⟨rfl,rfl,rfl⟩;refine⟨_,_,.sub (cW _) .refl,?_,iC,rfl⟩;rw[od];rfl
    ·subst hw;refine aQ.mk (((n-1:Nat)):Int) jk ?_;refine jv.mk 0 (n-1) rfl rfl (bQ _) (by show n-1<=eK;omega) ?_;refine aB.mk (λa2=>?_) (λa2=>?_)
     ·have fW:0<n-1:=by simp at a2;omega
      refine⟨(g,a,⟨some cD,n-1,eK,cur⟩,hG,_),aN _ ⟨iC,aX,⟨?_,(λh=>by cases h),λb0 _=>⟨cv,by show n-1<=eK;omega,kJ,?_⟩⟩,?_,λe he=>c1 e (by simp[he]),?_,?_⟩ ?_,.perm (M1:=[⟨b6,.cells t.aa[j].cells.toArray 61 (0,0)⟩]++(⟨cD,.cells cur.toArray 246 (0,0)⟩::a.M g)) (gQ (l₂:=[_,_])) (.sub (e' _ _) .refl),cU,.cons rfl .nil⟩;·exact gV
      ·show cur.take ((n-1)*3)=_;rw[lN,<-gV];exact pJ rfl
      ·intro h;simp only at h;rw[h]at fY;simp at fY;omega
      ·simp only;rw[g6,rR,<-nB,iE];simp[strOf]
      ·simp only;omega
      ·simp only[nA];omega
     ·have fW:n-1=0:=by simp at a2;omega
      have tX:hG=[]:=hZ (by omega);have od:a.bd=fX deb t.aa t.root:=by rw[g6,rR,<-nB,iE,tX];simp[tV,strOf]
      refine aU.mk (a.M g) [⟨b6,.cells t.aa[j].cells.toArray 61 (0,0)⟩,⟨cD,.cells cur.toArray 246 (0,0)⟩] _ (by simp) (xl g aX (by rw[od];omega)) ?_;rintro v xr FH -⟨rfl,rfl,rfl⟩;refine⟨_,_,.sub (cW _) .refl,?_,iC,rfl⟩;rw[od];rfl
  ·refine aE.mk _ (dj (T:=61) (b:=b6) (cs:=t.aa[j].cells) (k:=0) (n:=9) (.head _) (b9 rfl)) ?_;refine aU.mk [] (⟨b6,.cells t.aa[j].cells.toArray 61 (0,0)⟩::⟨cD,.cells cur.toArray 246 (0,0)⟩::x.M g) _ (.refl _) (Uh m4.d m4.s fz k7) ?_;rintro v dG ew -⟨rfl,ed,rfl⟩;have iC:∀ b o,dM b=some o->dG b=some o:=λb o h=>ed _ _ (hle _ _ h);have tW:=Na deb k7;refine aU.mk (x.M g) [⟨b6,.cells t.aa[j].cells.toArray 61 (0,0)⟩,⟨cD,.cells cur.toArray 246 (0,0)⟩] _ (gQ (l₁:=[_,_])) (tN g FD _ (by show _+(kp deb t.aa[j]).length<=_;omega)) ?_;rintro v gJ qE -⟨rfl,rfl,u,hu,xm,rfl⟩;have rR:u.bd=x.bd++ob deb t.aa (j,i,w):=by rw[xm];simp only[ob,U,ab,jO aj,bt,bz];simp[strOf]
   have Ud:u.bd.length<=2412*t.aa.length+2401:=by rw[rR,cz];simp only[ob,U,ab,jO aj,bt,bz,cz,cS,dI];omega
   have kO:=bA.mono iC;have pR:=aq.mono iC;have qM:=pR.aa t.aa[j] (bJ aj);have FF:∀ {k m:Nat},k+m<=9->bq gJ (u.M g++[⟨b6,.cells t.aa[j].cells.toArray 61 (0,0)⟩,⟨cD,.cells cur.toArray 246 (0,0)⟩]) ((⟨b6,0,none⟩:Addr).add k) m ((t.aa[j].cells.drop k).take m):=λh=>dj (T:=61) (by simp) h;refine cr.draw aI rfl rfl rfl ?_;refine aE.mk [.int .i64 i] (mZ (b:=cD) (cs:=cur) (T:=246) (by simp[aY.aw]) rQ) ?_;refine aE.mk _ (FF (by decide)) ?_;refine aB.mk (λaf=>?_) (λaf=>?_)
   ·have cd:i<t.aa[j].aZ:=by simpa using af
    have lO:i<t.aa[j].kids.length:=by omega
    obtain⟨eU,eO,eB⟩:=qM.aJ.one cd lO;have e6:=h1 ag j aj _ (bJ lO);obtain⟨q,yV⟩:=en e6.1;have ee:q<t.aa.length:=by omega
    have kP:q<t.n:=by omega
    obtain⟨iD,lb,rS⟩:=pR.aJ.row aH.bI kP ee;have ld:∀ M,bq gJ M ((iD.add (q*9)).add 0) 1 [.int .u8 t.aa[q].k]:=λM=>(rS M).part (k:=0) (m:=1) (by decide);have pS:fD t.aa ((q:Nat):Int)=t.aa[q].k:=by simp[fD,bV,ee]
    have iE:=Nc (deb:=deb) ag aj (w:=w) lO;have qN:=Nd ag aj (w:=w) (w':=fI t.aa[j].k t.aa[q].k) lO;rw[yV]at iE qN;simp only[CS,lz]at iE qN;rw[pS]at iE;have eT:IntKind.i64.wrap ((i:Int)+1)=((i+1:Nat):Int):=by have:=qM.aJ.cap;rw[wrap_i64 ⟨by omega,by omega⟩];omega
    have c4:bG cur ((n-1)*3+1) [.int .i64 ((i+1:Nat):Int)]=oY hG++([.int .i64 j,.int .i64 ((i+1:Nat):Int),.bool w]++rest):=by rw[lN,<-gV];exact Nh _ _ _ _ _ _
    have FG:aY.ok ⟨some cD,n,eK,bG cur ((n-1)*3+1) [.int .i64 ((i+1:Nat):Int)]⟩ 3 (oY (hG++[(j,i+1,w)])):=by
     rw[c4,AS];refine⟨by simp only[cz,cS,dI];omega,(λh=>by cases h),λb0 _=>⟨?_,ml,kJ,?_⟩⟩;·simp only;rw[<-cv,lN];simp
     ·simp only;rw[<-fx];refine pJ ?_;simp only[cz,cS,dI];omega
    refine aE.mk [.int .i64 i] (mZ (b:=cD) (cs:=cur) (T:=246) (by simp[aY.aw]) rQ) ?_;refine aB.mk (λa2=>by simp at U a2;omega) (λa2=>?_);refine cr.draw aI rfl rfl rfl ?_;refine aE.mk _ (dj (T:=61) (b:=b6) (cs:=t.aa[j].cells) (k:=8) (n:=1) (by simp) (b9 rfl)) ?_;refine aE.mk [.int .i64 i] (mZ (b:=cD) (cs:=cur) (T:=246) (by simp[aY.aw]) rQ) ?_;refine aW.mk eU i eO rfl cd ?_;refine aE.mk [.int .i64 (q:Nat)] (by have fP:=eB;rw[yV]at fP;exact fP _) ?_;refine aE.mk [.int .i64 i] (mZ (b:=cD) (cs:=cur) (T:=246) (by simp[aY.aw]) rQ) ?_;refine aQ.mk ((i+1:Nat):Int) eT ?_;refine cu.yS (u.M g++[⟨b6,.cells t.aa[j].cells.toArray 61 (0,0)⟩]) [] cur.toArray 246 (by simp[aY.aw]) ?_ rfl ?_;·simp only[jZ];show(n-1)*3+1+1<=_;omega
    refine cr.draw aI rfl rfl rfl ?_;refine aE.mk [.int .u8 t.aa[j].k] (dj (T:=61) (b:=b6) (cs:=t.aa[j].cells) (k:=0) (n:=1) (by simp) (b9 rfl)) ?_;refine aW.mk iD q lb rfl kP ?_;refine aE.mk [.int .u8 t.aa[q].k] (ld _) ?_;refine e7.mk _ (MR t.aa[j].k t.aa[q].k) ?_;rintro v yW rF -⟨rfl,rfl,rfl⟩;refine bL.mk λbT h3 iF=>?_;refine bk.append aI rfl (by simp) (e:=246) rfl rfl rfl ⟨some cD,n,eK,bG cur ((n-1)*3+1) [.int .i64 ((i+1:Nat):Int)]⟩ (xs:=oY (hG++[(j,i+1,w)])) FG rfl (m:=1) rfl (news:=m3 (q,0,fI t.aa[j].k t.aa[q].k)) (by decide) (dj (b:=bT) (cs:=m3 (q,0,fI t.aa[j].k t.aa[q].k)) (k:=0) (n:=3) (T:=246) (.head _) (b9 rfl)) rfl (Mr:=⟨bT,.cells (m3 (q,0,fI t.aa[j].k t.aa[q].k)).toArray 246 (0,0)⟩::(u.M g++[⟨b6,.cells t.aa[j].cells.toArray 61 (0,0)⟩])) (by exact gQ (l₁:=(⟨bT,.cells (m3 (q,0,fI t.aa[j].k t.aa[q].k)).toArray 246 (0,0)⟩:aD)::(u.M g++[⟨b6,.cells t.aa[j].cells.toArray 61 (0,0)⟩])) (l₂:=[⟨cD,.cells (bG cur ((n-1)*3+1) [.int .i64 ((i+1:Nat):Int)]).toArray 246 (0,0)⟩])) (by show n+1<=_;simp only[maxLen];omega) (by show(n+1)*24<=_;omega) ?_;intro dh c' fi c5 c7 dS eP;refine⟨(g,u,⟨some dh,n+1,c',fi⟩,hG++[(j,i+1,w)]++[(q,0,fI t.aa[j].k t.aa[q].k)],_),aN _ ⟨iC,hu,⟨?_,(λh=>by cases h),λb0 _=>⟨c5,c7,dS,?_⟩⟩,by simp,?_,?_,?_⟩ ?_,.perm (M1:=[⟨bT,.cells (m3 (q,0,fI t.aa[j].k t.aa[q].k)).toArray 246 (0,0)⟩,⟨b6,.cells t.aa[j].cells.toArray 61 (0,0)⟩]++(⟨dh,.cells fi.toArray 246 (0,0)⟩::u.M g)) (Ng _ _ _ _) (.sub (e' _ _) .refl),cU,.cons rfl .nil⟩;·show _=(n+1)*3;rw[FA];simp;omega
    ·show fi.take ((n+1)*3)=_;rw[AS (hG++[(j,i+1,w)])];exact eP
    ·intro e he;simp only[dm,fb]at he;rcases he with(he | rfl) | rfl
     ·exact c1 e (by simp[he])
     ·exact aj
     ·exact ee
    ·simp only;rw[AQ,AQ,rR,<-nB,iE];rw[show decide (0<(i:Int))=false from a2];simp
    ·simp only;rw[rP,rP];omega
    ·simp only;rw[rP,rP];omega
   ·have cd:t.aa[j].kids.length<=i:=by simp at af;omega
    have iE:=Nf (deb:=deb) aj (w:=w) cd;have nt:=I4 t.aa[j];refine aE.mk _ (dj (T:=61) (b:=b6) (cs:=t.aa[j].cells) (k:=0) (n:=9) (by simp) (b9 rfl)) ?_;refine aU.mk [] (u.M g++[⟨b6,.cells t.aa[j].cells.toArray 61 (0,0)⟩,⟨cD,.cells cur.toArray 246 (0,0)⟩]) _ (.refl _) (M8 kO.c kO.p kO.s qM k7) ?_;rintro v yW rF -⟨rfl,rfl,rfl⟩;refine aU.mk (u.M g) [⟨b6,.cells t.aa[j].cells.toArray 61 (0,0)⟩,⟨cD,.cells cur.toArray 246 (0,0)⟩] _ (by simp) (tN g hu _ (by show _+(jN t.aa[j]).length<=_;omega)) ?_;rintro v C2 Ut -⟨rfl,rfl,a,aX,g6,rfl⟩;have Uu:a.bd.length<=2412*t.aa.length+2410:=by rw[g6,cz];show _+(jN t.aa[j]).length<=_;omega
    refine aE.mk [.bool w] (mZ (b:=cD) (cs:=cur) (T:=246) (by simp[aY.aw]) dY) ?_;refine aB.mk (λhw=>?_) (λhw=>?_)
    ·subst hw;refine aU.mk (a.M g) [⟨b6,.cells t.aa[j].cells.toArray 61 (0,0)⟩,⟨cD,.cells cur.toArray 246 (0,0)⟩] _ (by simp) (oV g aX 41 (by omega)) ?_;rintro v I9 Uv -⟨rfl,rfl,c,aC,iU,rfl⟩;refine aQ.mk (((n-1:Nat)):Int) jk ?_;refine jv.mk 0 (n-1) rfl rfl (bQ _) (by show n-1<=eK;omega) ?_;refine aB.mk (λa2=>?_) (λa2=>?_)
     ·have fW:0<n-1:=by simp at a2;omega
      refine⟨(g,c,⟨some cD,n-1,eK,cur⟩,hG,_),aN _ ⟨iC,aC,⟨?_,(λh=>by cases h),λb0 _=>⟨cv,by show n-1<=eK;omega,kJ,?_⟩⟩,?_,λe he=>c1 e (by simp[he]),?_,?_⟩ ?_,.perm (M1:=[⟨b6,.cells t.aa[j].cells.toArray 61 (0,0)⟩]++(⟨cD,.cells cur.toArray 246 (0,0)⟩::c.M g)) (gQ (l₂:=[_,_])) (.sub (e' _ _) .refl),cU,.cons rfl .nil⟩;·exact gV
      ·show cur.take ((n-1)*3)=_;rw[lN,<-gV];exact pJ rfl
      ·intro h;simp only at h;rw[h]at fY;simp at fY;omega
      ·simp only;rw[iU,g6,rR,<-nB,iE];simp[strOf]
      ·simp only;omega
      ·simp only[nA];omega
     ·have fW:n-1=0:=by simp at a2;omega
      have tX:hG=[]:=hZ (by omega);have od:c.bd=fX deb t.aa t.root:=by rw[iU,g6,rR,<-nB,iE,tX];simp[tV,strOf]
      refine aU.mk (c.M g) [⟨b6,.cells t.aa[j].cells.toArray 61 (0,0)⟩,⟨cD,.cells cur.toArray 246 (0,0)⟩] _ (by simp) (xl g aC (by rw[od];omega)) ?_;rintro v xr FH -⟨rfl,rfl,rfl⟩;refine⟨_,_,.sub (cW _) .refl,?_,iC,rfl⟩;rw[od];rfl
    ·subst hw;refine aQ.mk (((n-1:Nat)):Int) jk ?_;refine jv.mk 0 (n-1) rfl rfl (bQ _) (by show n-1<=eK;omega) ?_;refine aB.mk (λa2=>?_) (λa2=>?_)
     ·have fW:0<n-1:=by simp at a2;omega
      refine⟨(g,a,⟨some cD,n-1,eK,cur⟩,hG,_),aN _ ⟨iC,aX,⟨?_,(λh=>by cases h),λb0 _=>⟨cv,by show n-1<=eK;omega,kJ,?_⟩⟩,?_,λe he=>c1 e (by simp[he]),?_,?_⟩ ?_,.perm (M1:=[⟨b6,.cells t.aa[j].cells.toArray 61 (0,0)⟩]++(⟨cD,.cells cur.toArray 246 (0,0)⟩::a.M g)) (gQ (l₂:=[_,_])) (.sub (e' _ _) .refl),cU,.cons rfl .nil⟩;·exact gV
      ·show cur.take ((n-1)*3)=_;rw[lN,<-gV];exact pJ rfl
      ·intro h;simp only at h;rw[h]at fY;simp at fY;omega
      ·simp only;rw[g6,rR,<-nB,iE];simp[strOf]
      ·simp only;omega
      ·simp only[nA];omega
     ·have fW:n-1=0:=by simp at a2;omega
      have tX:hG=[]:=hZ (by omega);have od:a.bd=fX deb t.aa t.root:=by rw[g6,rR,<-nB,iE,tX];simp[tV,strOf]
      refine aU.mk (a.M g) [⟨b6,.cells t.aa[j].cells.toArray 61 (0,0)⟩,⟨cD,.cells cur.toArray 246 (0,0)⟩] _ (by simp) (xl g aX (by rw[od];omega)) ?_;rintro v xr FH -⟨rfl,rfl,rfl⟩;refine⟨_,_,.sub (cW _) .refl,?_,iC,rfl⟩;rw[od];rfl
 ·have aqB:x.bd=x.bd++ob deb t.aa (j,i,w):=by simp only[ob,U,bz,db]
  have kO:=bA.mono hle;have pR:=aq.mono hle;have qM:=pR.aa t.aa[j] (bJ aj);have FF:∀ {k m:Nat},k+m<=9->bq bR (⟨b6,.cells t.aa[j].cells.toArray 61 (0,0)⟩::⟨cD,.cells cur.toArray 246 (0,0)⟩::x.M g) ((⟨b6,0,none⟩:Addr).add k) m ((t.aa[j].cells.drop k).take m):=λh=>dj (T:=61) (by simp) h;refine cr.draw aI rfl rfl rfl ?_;refine aE.mk [.int .i64 i] (mZ (b:=cD) (cs:=cur) (T:=246) (by simp[aY.aw]) rQ) ?_;refine aE.mk _ (FF (by decide)) ?_;refine aB.mk (λaf=>?_) (λaf=>?_)
  ·have cd:i<t.aa[j].aZ:=by simpa using af
   have lO:i<t.aa[j].kids.length:=by omega
   obtain⟨eU,eO,eB⟩:=qM.aJ.one cd lO;have e6:=h1 ag j aj _ (bJ lO);obtain⟨q,yV⟩:=en e6.1;have ee:q<t.aa.length:=by omega
   have kP:q<t.n:=by omega
   obtain⟨iD,lb,rS⟩:=pR.aJ.row aH.bI kP ee;have ld:∀ M,bq bR M ((iD.add (q*9)).add 0) 1 [.int .u8 t.aa[q].k]:=λM=>(rS M).part (k:=0) (m:=1) (by decide);have pS:fD t.aa ((q:Nat):Int)=t.aa[q].k:=by simp[fD,bV,ee]
   have iE:=Nc (deb:=deb) ag aj (w:=w) lO;have qN:=Nd ag aj (w:=w) (w':=fI t.aa[j].k t.aa[q].k) lO;rw[yV]at iE qN;simp only[CS,lz]at iE qN;rw[pS]at iE;have eT:IntKind.i64.wrap ((i:Int)+1)=((i+1:Nat):Int):=by have:=qM.aJ.cap;rw[wrap_i64 ⟨by omega,by omega⟩];omega
   have c4:bG cur ((n-1)*3+1) [.int .i64 ((i+1:Nat):Int)]=oY hG++([.int .i64 j,.int .i64 ((i+1:Nat):Int),.bool w]++rest):=by rw[lN,<-gV];exact Nh _ _ _ _ _ _
   have FG:aY.ok ⟨some cD,n,eK,bG cur ((n-1)*3+1) [.int .i64 ((i+1:Nat):Int)]⟩ 3 (oY (hG++[(j,i+1,w)])):=by
    rw[c4,AS];refine⟨by simp only[cz,cS,dI];omega,(λh=>by cases h),λb0 _=>⟨?_,ml,kJ,?_⟩⟩;·simp only;rw[<-cv,lN];simp
    ·simp only;rw[<-fx];refine pJ ?_;simp only[cz,cS,dI];omega
   refine aE.mk [.int .i64 i] (mZ (b:=cD) (cs:=cur) (T:=246) (by simp[aY.aw]) rQ) ?_;refine aB.mk (λa2=>?_) (λa2=>by simp at U a2;omega);refine aE.mk [.int .u8 t.aa[j].k] (dj (T:=61) (b:=b6) (cs:=t.aa[j].cells) (k:=0) (n:=1) (.head _) (b9 rfl)) ?_;refine eb.mk t.aa[j].k.toNat (by have:=qM.k;omega) (by have:=k7.k;have:=qM.k;omega) ?_;refine aE.mk _ (kO.s.rd _ (by have:=k7.k;have:=qM.k;show t.aa[j].k.toNat*3+1<30;omega)) ?_;refine aU.mk (x.M g) [⟨b6,.cells t.aa[j].cells.toArray 61 (0,0)⟩,⟨cD,.cells cur.toArray 246 (0,0)⟩] _ (gQ (l₁:=[_,_])) (tN g FD _ (by have:=Fy (t.aa[j].k.toNat*3+1);show _+(h2 (t.aa[j].k.toNat*3+1)).length<=_;omega)) ?_;rintro v qF sK -⟨rfl,rfl,z,aeO,aeP,rfl⟩;have sM:z.bd=x.bd++oa t.aa[j]:=aeP;refine cr.draw aI rfl rfl rfl ?_;refine aE.mk _ (dj (T:=61) (b:=b6) (cs:=t.aa[j].cells) (k:=8) (n:=1) (by simp) (b9 rfl)) ?_;refine aE.mk [.int .i64 i] (mZ (b:=cD) (cs:=cur) (T:=246) (by simp[aY.aw]) rQ) ?_;refine aW.mk eU i eO rfl cd ?_;refine aE.mk [.int .i64 (q:Nat)] (by have fP:=eB;rw[yV]at fP;exact fP _) ?_;refine aE.mk [.int .i64 i] (mZ (b:=cD) (cs:=cur) (T:=246) (by simp[aY.aw]) rQ) ?_;refine aQ.mk ((i+1:Nat):Int) eT ?_;refine cu.yS (z.M g++[⟨b6,.cells t.aa[j].cells.toArray 61 (0,0)⟩]) [] cur.toArray 246 (by simp[aY.aw]) ?_ rfl ?_;·simp only[jZ];show(n-1)*3+1+1<=_;omega
   refine cr.draw aI rfl rfl rfl ?_;refine aE.mk [.int .u8 t.aa[j].k] (dj (T:=61) (b:=b6) (cs:=t.aa[j].cells) (k:=0) (n:=1) (by simp) (b9 rfl)) ?_;refine aW.mk iD q lb rfl kP ?_;refine aE.mk [.int .u8 t.aa[q].k] (ld _) ?_;refine e7.mk _ (MR t.aa[j].k t.aa[q].k) ?_;rintro v yW rF -⟨rfl,rfl,rfl⟩;refine bL.mk λbT h3 iF=>?_;refine bk.append aI rfl (by simp) (e:=246) rfl rfl rfl ⟨some cD,n,eK,bG cur ((n-1)*3+1) [.int .i64 ((i+1:Nat):Int)]⟩ (xs:=oY (hG++[(j,i+1,w)])) FG rfl (m:=1) rfl (news:=m3 (q,0,fI t.aa[j].k t.aa[q].k)) (by decide) (dj (b:=bT) (cs:=m3 (q,0,fI t.aa[j].k t.aa[q].k)) (k:=0) (n:=3) (T:=246) (.head _) (b9 rfl)) rfl (Mr:=⟨bT,.cells (m3 (q,0,fI t.aa[j].k t.aa[q].k)).toArray 246 (0,0)⟩::(z.M g++[⟨b6,.cells t.aa[j].cells.toArray 61 (0,0)⟩])) (by exact gQ (l₁:=(⟨bT,.cells (m3 (q,0,fI t.aa[j].k t.aa[q].k)).toArray 246 (0,0)⟩:aD)::(z.M g++[⟨b6,.cells t.aa[j].cells.toArray 61 (0,0)⟩])) (l₂:=[⟨cD,.cells (bG cur ((n-1)*3+1) [.int .i64 ((i+1:Nat):Int)]).toArray 246 (0,0)⟩])) (by show n+1<=_;simp only[maxLen];omega) (by show(n+1)*24<=_;omega) ?_;intro dh c' fi c5 c7 dS eP;refine⟨(g,z,⟨some dh,n+1,c',fi⟩,hG++[(j,i+1,w)]++[(q,0,fI t.aa[j].k t.aa[q].k)],_),aN _ ⟨hle,aeO,⟨?_,(λh=>by cases h),λb0 _=>⟨c5,c7,dS,?_⟩⟩,by simp,?_,?_,?_⟩ ?_,.perm (M1:=[⟨bT,.cells (m3 (q,0,fI t.aa[j].k t.aa[q].k)).toArray 246 (0,0)⟩,⟨b6,.cells t.aa[j].cells.toArray 61 (0,0)⟩]++(⟨dh,.cells fi.toArray 246 (0,0)⟩::z.M g)) (Ng _ _ _ _) (.sub (e' _ _) .refl),cU,.cons rfl .nil⟩;·show _=(n+1)*3;rw[FA];simp;omega
   ·show fi.take ((n+1)*3)=_;rw[AS (hG++[(j,i+1,w)])];exact eP
   ·intro e he;simp only[dm,fb]at he;rcases he with(he | rfl) | rfl
    ·exact c1 e (by simp[he])
    ·exact aj
    ·exact ee
   ·simp only;rw[AQ,AQ,sM,<-nB,iE];rw[show decide (0<(i:Int))=true from a2,show ob deb t.aa (j,i,w)=[]from by simp only[ob,U,bz]];simp
   ·simp only;rw[rP,rP];omega
   ·simp only;rw[rP,rP];omega
  ·have cd:t.aa[j].kids.length<=i:=by simp at af;omega
   have aeQ:=Nf (deb:=deb) aj (w:=w) cd;have iE:tU deb t.aa (j,i,w)=jN t.aa[j]++(bif w then [41]else []):=by rw[aeQ];simp only[ob,U,bz,hO]
   have nt:=I4 t.aa[j];refine aE.mk _ (dj (T:=61) (b:=b6) (cs:=t.aa[j].cells) (k:=0) (n:=9) (.head _) (b9 rfl)) ?_;refine aU.mk [] (⟨b6,.cells t.aa[j].cells.toArray 61 (0,0)⟩::⟨cD,.cells cur.toArray 246 (0,0)⟩::x.M g) _ (.refl _) (M8 kO.c kO.p kO.s qM k7) ?_;rintro v yW rF -⟨rfl,rfl,rfl⟩;refine aU.mk (x.M g) [⟨b6,.cells t.aa[j].cells.toArray 61 (0,0)⟩,⟨cD,.cells cur.toArray 246 (0,0)⟩] _ (gQ (l₁:=[_,_])) (tN g FD _ (by show _+(jN t.aa[j]).length<=_;omega)) ?_;rintro v C2 Ut -⟨rfl,rfl,a,aX,g6,rfl⟩;have Uu:a.bd.length<=2412*t.aa.length+2410:=by rw[g6,cz];show _+(jN t.aa[j]).length<=_;omega
   refine aE.mk [.bool w] (mZ (b:=cD) (cs:=cur) (T:=246) (by simp[aY.aw]) dY) ?_;refine aB.mk (λhw=>?_) (λhw=>?_)
   ·subst hw;refine aU.mk (a.M g) [⟨b6,.cells t.aa[j].cells.toArray 61 (0,0)⟩,⟨cD,.cells cur.toArray 246 (0,0)⟩] _ (by simp) (oV g aX 41 (by omega)) ?_;rintro v I9 Uv -⟨rfl,rfl,c,aC,iU,rfl⟩;refine aQ.mk (((n-1:Nat)):Int) jk ?_;refine jv.mk 0 (n-1) rfl rfl (bQ _) (by show n-1<=eK;omega) ?_;refine aB.mk (λa2=>?_) (λa2=>?_)
    ·have fW:0<n-1:=by simp at a2;omega
     refine⟨(g,c,⟨some cD,n-1,eK,cur⟩,hG,_),aN _ ⟨hle,aC,⟨?_,(λh=>by cases h),λb0 _=>⟨cv,by show n-1<=eK;omega,kJ,?_⟩⟩,?_,λe he=>c1 e (by simp[he]),?_,?_⟩ ?_,.perm (M1:=[⟨b6,.cells t.aa[j].cells.toArray 61 (0,0)⟩]++(⟨cD,.cells cur.toArray 246 (0,0)⟩::c.M g)) (gQ (l₂:=[_,_])) (.sub (e' _ _) .refl),cU,.cons rfl .nil⟩;·exact gV
     ·show cur.take ((n-1)*3)=_;rw[lN,<-gV];exact pJ rfl
     ·intro h;simp only at h;rw[h]at fY;simp at fY;omega
     ·simp only;rw[iU,g6,<-nB,iE];simp[strOf]
     ·simp only;omega
     ·simp only[nA];omega
    ·have fW:n-1=0:=by simp at a2;omega
     have tX:hG=[]:=hZ (by omega);have od:c.bd=fX deb t.aa t.root:=by rw[iU,g6,<-nB,iE,tX];simp[tV,strOf]
     refine aU.mk (c.M g) [⟨b6,.cells t.aa[j].cells.toArray 61 (0,0)⟩,⟨cD,.cells cur.toArray 246 (0,0)⟩] _ (by simp) (xl g aC (by rw[od];omega)) ?_;rintro v xr FH -⟨rfl,rfl,rfl⟩;refine⟨_,_,.sub (cW _) .refl,?_,hle,rfl⟩;rw[od];rfl
   ·subst hw;refine aQ.mk (((n-1:Nat)):Int) jk ?_;refine jv.mk 0 (n-1) rfl rfl (bQ _) (by show n-1<=eK;omega) ?_;refine aB.mk (λa2=>?_) (λa2=>?_)
    ·have fW:0<n-1:=by simp at a2;omega
     refine⟨(g,a,⟨some cD,n-1,eK,cur⟩,hG,_),aN _ ⟨hle,aX,⟨?_,(λh=>by cases h),λb0 _=>⟨cv,by show n-1<=eK;omega,kJ,?_⟩⟩,?_,λe he=>c1 e (by simp[he]),?_,?_⟩ ?_,.perm (M1:=[⟨b6,.cells t.aa[j].cells.toArray 61 (0,0)⟩]++(⟨cD,.cells cur.toArray 246 (0,0)⟩::a.M g)) (gQ (l₂:=[_,_])) (.sub (e' _ _) .refl),cU,.cons rfl .nil⟩;·exact gV
     ·show cur.take ((n-1)*3)=_;rw[lN,<-gV];exact pJ rfl
     ·intro h;simp only at h;rw[h]at fY;simp at fY;omega
     ·simp only;rw[g6,<-nB,iE];simp[strOf]
     ·simp only;omega
     ·simp only[nA];omega
    ·have fW:n-1=0:=by simp at a2;omega
     have tX:hG=[]:=hZ (by omega);have od:a.bd=fX deb t.aa t.root:=by rw[g6,<-nB,iE,tX];simp[tV,strOf]
     refine aU.mk (a.M g) [⟨b6,.cells t.aa[j].cells.toArray 61 (0,0)⟩,⟨cD,.cells cur.toArray 246 (0,0)⟩] _ (by simp) (xl g aX (by rw[od];omega)) ?_;rintro v xr FH -⟨rfl,rfl,rfl⟩;refine⟨_,_,.sub (cW _) .refl,?_,hle,rfl⟩;rw[od];rfl
def Uw{K:j6}{a b d:de}{e:Option (List Value)}(h:∀ G oc,V X c (fA (fA (fA G t3 d) t2 b) t1 a) (iQ oc t1 e) I M K)
  (U:F t1=a) (ab:F t2=b) (ak:F t3=d) (aL:C t1=e):V X c F C I M K:=by
 have:=h F C;rwa [C0 ak,C0 ab,C0 U,aeK aL]at this
def aeR(bA:fr I deb)(aq:t.ok I)(az:t.n<=1024):Spec Tryz.prog 177 [t.val] I [] λr I' M'=>r=.string (strOf (ij deb t))/\(∀ b o,I b=some o->I' b=some o)/\M'=[]:=by
 refine bn [3] aI Tryz.func177 rfl rfl rfl ?_;intro B av;have kI:=aq.n;cases ag:right t with
 |true=>
  have xt:ij deb t=fX deb t.aa t.root:=by simp[ij,ag]
  rw[xt];have rI:=lK ag;obtain⟨r,g3⟩:=en rI.1;have dp:r<t.aa.length:=by omega
  obtain⟨aa,FI,Ja,Jb,root⟩:=t;simp only at g3;subst g3;have g3:(⟨aa,FI,Ja,Jb,Int.ofNat r⟩:bx).root=Int.ofNat r:=rfl;refine cr.scope aI rfl (λy:Nat×FB=>Uq ⟨aa,FI,Ja,Jb,Int.ofNat r⟩ y.1 y.2) (λ_=>0) (λy=>I8 I deb ⟨aa,FI,Ja,Jb,Int.ofNat r⟩ y.2) (λy=>vE aa y.2.2.2.1) (λ_=>I7 (C1 (Tryz.f177.body.getD .skip)) 0) (λ_ _=>⟨by kernel_rfl,by kernel_rfl⟩) ?_ ?_
  ·refine aU.mk [] [] _ (.refl _) (xk bA.c aq) ?_;rintro v I' M' -⟨rfl,rfl,rfl⟩;rw[ag];refine aB.mk (λh=>by cases h) (λ_=>?_);refine bL.mk λg ao yM=>?_;refine bL.mk λfy AT aqC=>?_;refine Uw (t1:=1) (t2:=3) (t3:=4) (λG oc=>Ur bA aq ag az (p:=λl y=>I8 _ deb ⟨aa,FI,Ja,Jb,Int.ofNat r⟩ y.2/\0=l) (g:=g) (fQ.new,⟨some fy,1,1,m3 (r,0,false)⟩,[(r,0,false)],I') ?_ (λy aA _=>⟨aA,rfl⟩) B av G oc) rfl rfl rfl rfl;refine⟨λ_ _ h=>h,fQ.IR,⟨rfl,(λh=>by cases h),λb0 _=>⟨rfl,b2 _,by simp only[maxLen];omega,rfl⟩⟩,by simp,?_,?_,?_⟩
   ·intro e he;simp only[fb]at he;subst he;exact dp
   ·simp only[tV,List.reverse_singleton,mh,CV,db];have fP:=Uo (deb:=deb) ag dp false;simp only at fP |-;rw[fP];simp[fQ.new,paren]
   ·have U:=Up ag dp false;have ab:=aeJ ag;simp only[CS]at U ab;simp only[vE,cZ,jj,n4,CX];omega
  ·rintro⟨g,x⟩ae;refine Uw (t1:=1) (t2:=3) (t3:=4) (λG oc=>Ur bA aq ag az (g:=g) x ae (λy aA ax=>⟨⟨aA,rfl⟩,ax⟩) B av G oc) rfl rfl rfl rfl
 |false=>
  have xt:ij deb t=[]:=by simp[ij,ag]
  rw[xt];refine cr.scope aI rfl (ι:=Empty) (λe=>nomatch e) (λe=>nomatch e) (λe=>nomatch e) (λe=>nomatch e) (λ_=>.skip) (λe=>nomatch e) ?_ (λe=>nomatch e);refine aU.mk [] [] _ (.refl _) (xk bA.c aq) ?_;rintro v I' M' -⟨rfl,rfl,rfl⟩;rw[ag];refine aB.mk (λ_=>?_) (λh=>by cases h);exact⟨_,_,.refl,rfl,λ_ _ h=>h,rfl⟩
def aK.val(d:aK):Value:=.agg #[.string d.name,.slice d.t.a d.t.n d.t.c,.int .i64 d.t.root]
def lP(deb:List Int)(d:aK):List UInt8:=
 bif decide (strOf (ij deb d.t)=⟨#[]⟩) || !h0 d.name then []else d.name.data.toList++[32,60,45,32]++ij deb d.t++[10]
def Nk(h:h0 s=true):s.size<=32:=by unfold h0 at h;simp only[b',fk]at h;omega
def Nl(deb:List Int)(d:aK):(lP deb d).length<=37+2412*d.t.aa.length:=by
 have U:=I6 deb d.t;unfold lP;cases aC:(decide (strOf (ij deb d.t)=⟨#[]⟩) || !h0 d.name)with
 |true=>simp| false=>simp only[qB,I2]at aC;have ab:=Nk aC.2;have ak:d.name.data.toList.length=d.name.size:=rfl;simp only[bz,cz,cS,dI];omega
def aeS(bA:fr I deb){d:aK}(al:d.ok I)(az:d.t.n<=1024):Spec Tryz.prog 155 [d.val] I [] λr I' M'=>r=.string (strOf (lP deb d))/\(∀ b o,I b=some o->I' b=some o)/\M'=[]:=by
 refine bn [] aI Tryz.func155 rfl rfl rfl ?_;intro B av;refine aU.mk [] [] _ (.refl _) (aeR bA al.t az) ?_;rintro v bR M1 -⟨rfl,bK,rfl⟩;refine a9.mk (λU=>?_) (λU=>?_)
 ·refine aU.mk [] [] _ (.refl _) (ML _ d.name) ?_;rintro v I' M' -⟨rfl,rfl,rfl⟩;refine aB.mk (λab=>?_) (λab=>?_)
  ·refine⟨_,_,.refl,?_,bK,rfl⟩;have:lP deb d=[]:=by unfold lP;rw[U,ab];rfl
   rw[this];rfl
  ·have hm:h0 d.name=true:=by simpa using ab
   have ab:=Nk hm;have ak:d.name.data.toList.length=d.name.size:=rfl;have aL:=I6 deb d.t;have bm:=al.t.n;refine cx.concat (a:=d.name) (b:=strOf [32,60,45,32]) (by show _+4<=_;omega) ?_;refine cx.concat (a:=d.name++strOf [32,60,45,32]) (b:=strOf (ij deb d.t)) (by rw[AN];show _+4+(ij deb d.t).length<=_;omega) ?_;refine cx.concat (a:=d.name++strOf [32,60,45,32]++strOf (ij deb d.t)) (b:=strOf [10]) (by rw[AN,AN];show _+4+(ij deb d.t).length+1<=_;omega) ?_;refine⟨_,_,.refl,?_,bK,rfl⟩;refine congrArg Value.string (yO ?_);rw[lP,U,hm];simp[strOf]
 ·refine⟨_,_,.refl,?_,bK,rfl⟩;have:lP deb d=[]:=by unfold lP;rw[U];rfl
  rw[this];rfl
def ik(deb:List Int):List aK->List UInt8->List UInt8
 |[],acc=>acc| d::ds,acc=>bif decide (strOf (lP deb d)=⟨#[]⟩)then []else ik deb ds (acc++lP deb d)
def Ux(deb:List Int):∀ (ds:List aK) (acc:List UInt8) (m:Nat),(∀ d∈ds,d.t.aa.length<=1024)->acc.length<=m->(ik deb ds acc).length<=m+2500000*ds.length
 |[],acc,m,_,h=>by simpa[ik]using h
 |d::ds,acc,m,al,h=>by
  have U:=Nl deb d;have ab:=al d (by simp);have ak:=Ux deb ds (acc++lP deb d) (m+2500000) (λx ae=>al x (by simp[ae])) (by rw[cz];omega);unfold ik;cases decide (strOf (lP deb d)=⟨#[]⟩);·simp only[bz,cS];omega
  ·simp
def aeT(bA:fr I deb)(ao:g.ok I)(az:g.n<=64)(aq:∀ d∈g.ds,d.t.n<=1024):Spec Tryz.prog 136 [g.val] I [] λr I' M'=>r=.string (strOf (ik deb g.ds []))/\(∀ b o,I b=some o->I' b=some o)/\M'=[]:=by
 refine bn [3] aI Tryz.func136 rfl rfl rfl ?_;intro B av;have cK:=ao.n;have oZ:∀ d∈g.ds,d.t.aa.length<=1024:=λd al=>by rw[(ao.ds d al).t.n];exact aq d al
 refine bL.mk λb ah jJ=>?_;refine bu.inv (ι:=Nat×fQ×aT) (λp=>{ a4:=[(3,.val (ptr b)),(8,.val (.slice g.a g.n g.c)),(9,.val (.int .i64 g.n)),(10,.val (.int .i64 p.1))],br:=p.2.2,bO:=p.2.1.M b }) (λp=>p.1<=g.n/\p.2.1.ok/\(∀ b o,I b=some o->p.2.2 b=some o)/\p.2.1.bd.length<=2500000*p.1/\ik deb g.ds []=ik deb (g.ds.drop p.1) p.2.1.bd) (λp=>g.n-p.1) ?_ ?_
 ·exact⟨(0,fQ.new,I),⟨by simp,fQ.IR,λ_ _ h=>h,by simp[fQ.new],rfl⟩,.refl,cI,.nil⟩
 ·rintro⟨i,x,bR⟩⟨hi,ae,bK,e8,mr⟩;simp only at hi ae bK e8 mr;refine aB.mk (λh=>?_) (λh=>?_)
  ·have ax:i<g.n:=by simpa using h
   have bo:i<g.ds.length:=by omega
   have k':=ao.mono bK;obtain⟨ad,ba,a3⟩:=k'.aJ.row aK.bI ax bo;have cN:g.ds[i]∈g.ds:=bJ bo;have aeU:=Nl deb g.ds[i];have fP:=oZ _ cN;have fO:g.ds.drop i=g.ds[i]::g.ds.drop (i+1):=dv bo;refine aW.mk ad i ba rfl ax ?_;refine aE.mk _ (a3 _) ?_;refine aU.mk [] (x.M b) _ (.refl _) (aeS (bA.mono bK) (k'.ds _ cN) (aq _ cN)) ?_;rintro v dG ew -⟨rfl,ed,rfl⟩;refine aB.mk (λU=>?_) (λU=>?_);·refine⟨_,_,.sub (cW _) .refl,?_,λb o h=>ed _ _ (bK _ _ h),rfl⟩;rw[mr,fO,ik,U];rfl
   ·refine aU.mk (x.M b) [] _ (by simp) (tN b ae _ (by show _+(lP deb g.ds[i]).length<=_;omega)) ?_;rintro v I' M' -⟨rfl,rfl,y,aA,gA,rfl⟩;have Uy:y.bd=x.bd++lP deb g.ds[i]:=gA;have eT:IntKind.i64.wrap ((i:Int)+1)=((i+1:Nat):Int):=by rw[wrap_i64 ⟨by omega,by omega⟩];omega
    refine aQ.mk _ eT ?_;refine⟨(i+1,y,_),⟨⟨by simp only;omega,aA,λb o h=>ed _ _ (bK _ _ h),?_,?_⟩,by simp only;omega⟩,.perm (by simp) .refl,cI,.nil⟩;·simp only;rw[Uy,cz];omega
    ·simp only;rw[mr,fO,ik,U,Uy];rfl
  ·have bS:g.n<=i:=by simpa using h
   have gw:g.ds.drop i=[]:=iW (by omega);refine aU.mk (x.M b) [] _ (by simp) (xl b ae (by omega)) ?_;rintro v I' M' -⟨rfl,rfl,rfl⟩;refine⟨_,_,.refl,?_,bK,by simp⟩;rw[mr,gw];rfl
def aeV(bA:fr I deb)(ao:g.ok I)(az:g.n<=64)(aq:∀ d∈g.ds,d.t.n<=1024):Spec Tryz.prog 111 [g.val] I [] λr I' M'=>r=.int .i64 ((ik deb g.ds []).length:Int)/\(∀ b o,I b=some o->I' b=some o)/\M'=[]:=by refine bn [] aI Tryz.func111 rfl rfl rfl ?_;intro B av;refine aU.mk [] [] _ (.refl _) (aeT bA ao az aq) ?_;rintro v I' M' -⟨rfl,cg,rfl⟩;exact⟨_,_,.refl,rfl,cg,rfl⟩
def kQ(aa:List aH)(kind:Int):List Int->Bool
 |[]=>true| k::ks=>bif decide (fD aa k=kind)||(decide (fD aa k=0)&&decide (kind=4))then false else kQ aa kind ks
def kR(aa:List aH):List aH->Bool
 |[]=>true| d::ds=>bif !decide (d.k=4) && !decide (d.k=5)then kR aa ds else bif kQ aa d.k d.kids then kR aa ds else false
def normal(t:bx):Bool:=right t&&kR t.aa t.aa
def bl(h:i<=140737488355328):IntKind.i64.wrap ((i:Int)+1)=((i+1:Nat):Int):=by rw[wrap_i64 ⟨by omega,by omega⟩];omega
def aeW(aC:qI I)(aq:t.ok I):Spec Tryz.prog 82 [t.val] I [] (λv I' M'=>v=.bool (normal t)/\I'=I/\M'=[]):=by
 refine bn [] aI Tryz.func82 rfl rfl rfl ?_;intro B av;have az:=aq.n;have gk:=aq.aJ.cap;refine aU.mk [] [] _ (.refl _) (xk aC aq) ?_;rintro v I' M' -⟨rfl,rfl,rfl⟩;refine aB.mk (λh=>?_) (λh=>?_)
 ·refine⟨_,_,.refl,?_,rfl,rfl⟩;simp[normal,show right t=false by simpa using h]
 ·have ag:right t=true:=by simpa using h
  have cm:normal t=kR t.aa t.aa:=by simp[normal,ag]
  rw[cm];refine bu.inv (ι:=Nat) (λi=>{ a4:=[(1,.ref 1 0),(12,.val (.slice t.a t.n t.c)),(13,.val (.int .i64 t.n)),(14,.val (.int .i64 i))],cl:=[(1,t.cells)],br:=I' }) (λi=>i<=t.n/\kR t.aa t.aa=kR t.aa (t.aa.drop i)) (λi=>t.n-i) ?_ ?_;·exact⟨0,⟨by simp,rfl⟩,.refl,cI,.cons rfl .nil⟩
  ·rintro i⟨hi,c1⟩;refine aB.mk (λh=>?_) (λh=>?_)
   ·have ax:i<t.n:=by simpa using h
    have bo:i<t.aa.length:=by omega
    obtain⟨ad,ba,a3⟩:=aq.aJ.row aH.bI ax bo;have fz:=aq.aa t.aa[i] (bJ bo);have eR:=fz.aZ;have fO:t.aa.drop i=t.aa[i]::t.aa.drop (i+1):=dv bo;refine aW.mk ad i ba rfl ax ?_;refine aE.mk _ (a3 _) ?_;refine a9.mk (λda=>?_) (λda=>?_)
    ·refine aB.mk (λbZ=>?_) (λbZ=>?_)
     ·refine aQ.mk _ (bl (i:=i) (by omega)) ?_;refine⟨i+1,⟨⟨by omega,?_⟩,by omega⟩,.refl,cI,.cons rfl .nil⟩;rw[c1,fO,kR,da,bZ];rfl
     ·have jM:kR t.aa t.aa=bif kQ t.aa t.aa[i].k t.aa[i].kids then kR t.aa (t.aa.drop (i+1))else false:=by rw[c1,fO,kR,da,bZ];rfl
      refine bu.inv (ι:=Nat) (λj=>{ a4:=[(1,.ref 1 0),(4,.ref 4 0),(12,.val (.slice t.a t.n t.c)),(13,.val (.int .i64 t.n)),(14,.val (.int .i64 i)),(27,.val (.slice t.aa[i].eA t.aa[i].aZ t.aa[i].ej)),(28,.val (.int .i64 t.aa[i].aZ)),(29,.val (.int .i64 j))],cl:=[(1,t.cells),(4,t.aa[i].cells)],br:=I' }) (λj=>j<=t.aa[i].aZ/\kQ t.aa t.aa[i].k t.aa[i].kids=kQ t.aa t.aa[i].k (t.aa[i].kids.drop j)) (λj=>t.aa[i].aZ-j) ?_ ?_;·exact⟨0,⟨by simp,rfl⟩,.refl,tF,.cons rfl (.cons rfl .nil)⟩
      ·rintro j⟨aj,ms⟩;refine aB.mk (λh=>?_) (λh=>?_)
       ·have eS:j<t.aa[i].aZ:=by simpa using h
        have hR:j<t.aa[i].kids.length:=by omega
        obtain⟨eU,eO,eB⟩:=fz.aJ.one eS hR;have nv:t.aa[i].kids.drop j=t.aa[i].kids[j]::t.aa[i].kids.drop (j+1):=dv hR;have e6:=h1 ag i bo _ (bJ hR);generalize fC:t.aa[i].kids[j]=Jc at *;obtain⟨q,rfl⟩:=en e6.1;have ee:q<t.aa.length:=by omega
        have kP:q<t.n:=by omega
        obtain⟨iD,lb,rS⟩:=aq.aJ.row aH.bI kP ee;have ld:∀ M,bq I' M ((iD.add (q*9)).add 0) 1 [.int .u8 t.aa[q].k]:=λM=>(rS M).part (k:=0) (m:=1) (by decide);have pS:fD t.aa ((q:Nat):Int)=t.aa[q].k:=by simp[fD,bV,ee]
        have bad:(decide (t.aa[q].k=t.aa[i].k)||(decide (t.aa[q].k=0)&&decide (t.aa[i].k=4)))=true->kR t.aa t.aa=false:=λah=>by rw[jM,ms,nv,kQ,pS,ah];rfl
        have tY:(decide (t.aa[q].k=t.aa[i].k)||(decide (t.aa[q].k=0)&&decide (t.aa[i].k=4)))=false->kQ t.aa t.aa[i].k t.aa[i].kids=kQ t.aa t.aa[i].k (t.aa[i].kids.drop (j+1)):=λah=>by rw[ms,nv,kQ,pS,ah];rfl
        have eT:=bl (i:=j) (by have:=fz.aJ.cap;omega);refine aW.mk eU j eO rfl eS ?_;refine aE.mk _ (eB _) ?_;refine aW.mk iD q lb rfl kP ?_;refine aE.mk _ (ld _) ?_;refine a9.mk (λc6=>?_) (λc6=>?_)
        ·refine a9.mk (λdg=>?_) (λdg=>?_)
         ·refine aB.mk (λgB=>?_) (λgB=>?_)
          ·refine⟨_,_,.refl,?_,rfl,rfl⟩;rw[bad (by rw[c6,dg,gB];rfl)]
          ·refine aQ.mk _ eT ?_;exact⟨j+1,⟨⟨by omega,tY (by rw[c6,dg,gB];rfl)⟩,by omega⟩,.refl,tF,.cons rfl (.cons rfl .nil)⟩
         ·refine aQ.mk _ eT ?_;exact⟨j+1,⟨⟨by omega,tY (by rw[c6,dg];rfl)⟩,by omega⟩,.refl,tF,.cons rfl (.cons rfl .nil)⟩
        ·refine⟨_,_,.refl,?_,rfl,rfl⟩;rw[bad (by rw[c6];rfl)]
       ·have tL:t.aa[i].kids.drop j=[]:=iW (by simp at h;omega);refine aQ.mk _ (bl (i:=i) (by omega)) ?_;refine⟨i+1,⟨⟨by omega,?_⟩,by omega⟩,.refl,cI,.cons rfl .nil⟩;rw[jM,ms,tL];rfl
    ·have jM:kR t.aa t.aa=bif kQ t.aa t.aa[i].k t.aa[i].kids then kR t.aa (t.aa.drop (i+1))else false:=by rw[c1,fO,kR,da];rfl
     refine bu.inv (ι:=Nat) (λj=>{ a4:=[(1,.ref 1 0),(4,.ref 4 0),(12,.val (.slice t.a t.n t.c)),(13,.val (.int .i64 t.n)),(14,.val (.int .i64 i)),(27,.val (.slice t.aa[i].eA t.aa[i].aZ t.aa[i].ej)),(28,.val (.int .i64 t.aa[i].aZ)),(29,.val (.int .i64 j))],cl:=[(1,t.cells),(4,t.aa[i].cells)],br:=I' }) (λj=>j<=t.aa[i].aZ/\kQ t.aa t.aa[i].k t.aa[i].kids=kQ t.aa t.aa[i].k (t.aa[i].kids.drop j)) (λj=>t.aa[i].aZ-j) ?_ ?_;·exact⟨0,⟨by simp,rfl⟩,.refl,tF,.cons rfl (.cons rfl .nil)⟩
     ·rintro j⟨aj,ms⟩;refine aB.mk (λh=>?_) (λh=>?_)
      ·have eS:j<t.aa[i].aZ:=by simpa using h
       have hR:j<t.aa[i].kids.length:=by omega
       obtain⟨eU,eO,eB⟩:=fz.aJ.one eS hR;have nv:t.aa[i].kids.drop j=t.aa[i].kids[j]::t.aa[i].kids.drop (j+1):=dv hR;have e6:=h1 ag i bo _ (bJ hR);generalize fC:t.aa[i].kids[j]=Jc at *;obtain⟨q,rfl⟩:=en e6.1;have ee:q<t.aa.length:=by omega
       have kP:q<t.n:=by omega
       obtain⟨iD,lb,rS⟩:=aq.aJ.row aH.bI kP ee;have ld:∀ M,bq I' M ((iD.add (q*9)).add 0) 1 [.int .u8 t.aa[q].k]:=λM=>(rS M).part (k:=0) (m:=1) (by decide);have pS:fD t.aa ((q:Nat):Int)=t.aa[q].k:=by simp[fD,bV,ee]
       have bad:(decide (t.aa[q].k=t.aa[i].k)||(decide (t.aa[q].k=0)&&decide (t.aa[i].k=4)))=true->kR t.aa t.aa=false:=λah=>by rw[jM,ms,nv,kQ,pS,ah];rfl
       have tY:(decide (t.aa[q].k=t.aa[i].k)||(decide (t.aa[q].k=0)&&decide (t.aa[i].k=4)))=false->kQ t.aa t.aa[i].k t.aa[i].kids=kQ t.aa t.aa[i].k (t.aa[i].kids.drop (j+1)):=λah=>by rw[ms,nv,kQ,pS,ah];rfl
       have eT:=bl (i:=j) (by have:=fz.aJ.cap;omega);refine aW.mk eU j eO rfl eS ?_;refine aE.mk _ (eB _) ?_;refine aW.mk iD q lb rfl kP ?_;refine aE.mk _ (ld _) ?_;refine a9.mk (λc6=>?_) (λc6=>?_)
       ·refine a9.mk (λdg=>?_) (λdg=>?_)
        ·refine aB.mk (λgB=>?_) (λgB=>?_)
         ·refine⟨_,_,.refl,?_,rfl,rfl⟩;rw[bad (by rw[c6,dg,gB];rfl)]
         ·refine aQ.mk _ eT ?_;exact⟨j+1,⟨⟨by omega,tY (by rw[c6,dg,gB];rfl)⟩,by omega⟩,.refl,tF,.cons rfl (.cons rfl .nil)⟩
        ·refine aQ.mk _ eT ?_;exact⟨j+1,⟨⟨by omega,tY (by rw[c6,dg];rfl)⟩,by omega⟩,.refl,tF,.cons rfl (.cons rfl .nil)⟩
       ·refine⟨_,_,.refl,?_,rfl,rfl⟩;rw[bad (by rw[c6];rfl)]
      ·have tL:t.aa[i].kids.drop j=[]:=iW (by simp at h;omega);refine aQ.mk _ (bl (i:=i) (by omega)) ?_;refine⟨i+1,⟨⟨by omega,?_⟩,by omega⟩,.refl,cI,.cons rfl .nil⟩;rw[jM,ms,tL];rfl
   ·have bS:t.n<=i:=by simpa using h
    have gw:t.aa.drop i=[]:=iW (by omega);refine⟨_,_,.refl,?_,rfl,rfl⟩;rw[c1,gw];rfl
def lQ(t:bx):Nat:=bif right t then t.n else 0
def pT(g:bP):Nat:=(g.ds.map λd=>lQ d.t).sum
def Uz{α:Type}(f:α->Nat)(m:Nat):∀ (l:List α),(∀ x∈l,f x<=m)->(l.map f).sum<=m*l.length
 |[],_=>by simp
 |x::l,h=>by have U:=h x (by simp);have ab:=Uz f m l λy aA=>h y (by simp[aA]);simp only[cZ,n4,cS,II];omega
def aeX(aC:qI I)(ao:g.ok I)(az:g.n<=64)(aq:∀ d∈g.ds,d.t.n<=1024):Spec Tryz.prog 110 [g.val] I [] (λv I' M'=>v=.int .i64 (pT g:Nat)/\I'=I/\M'=[]):=by
 refine bn [] aI Tryz.func110 rfl rfl rfl ?_;intro B av;have cK:=ao.n;refine bu.inv (ι:=Nat) (λi=>{ a4:=[(3,.val (.int .i64 (((g.ds.take i).map λd=>lQ d.t).sum:Nat))),(7,.val (.slice g.a g.n g.c)),(8,.val (.int .i64 g.n)),(9,.val (.int .i64 i))],br:=I }) (λi=>i<=g.n) (λi=>g.n-i) ?_ ?_
 ·exact⟨0,by simp,.refl,cI,.nil⟩
 ·intro i hi;refine aB.mk (λh=>?_) (λh=>?_)
  ·have ax:i<g.n:=by simpa using h
   have bo:i<g.ds.length:=by omega
   obtain⟨ad,ba,a3⟩:=ao.aJ.row aK.bI ax bo;have cN:g.ds[i]∈g.ds:=bJ bo;have ar:((g.ds.take i).map λd=>lQ d.t).sum<=1024*(g.ds.take i).length:=Uz _ 1024 _ λd al=>by
    have:=aq d (Ft al);unfold lQ;cases right d.t<;>simp
    omega
   have ay:=rD i g.ds;have eu:lQ g.ds[i].t<=1024:=by
    have:=aq _ cN;unfold lQ;cases right g.ds[i].t<;>simp
    omega
   refine aW.mk ad i ba rfl ax ?_;refine aE.mk _ (a3 _) ?_;refine aU.mk [] [] _ (.refl _) (ad8 aC (ao.ds _ cN).t) ?_;rintro v I' M' -⟨rfl,rfl,rfl⟩;have aF:(bif right g.ds[i].t then(g.ds[i].t.n:Int)else 0)=(lQ g.ds[i].t:Nat):=by
    unfold lQ;cases right g.ds[i].t<;>rfl
   rw[aF];refine aQ.mk ((((g.ds.take (i+1)).map λd=>lQ d.t).sum:Nat):Int) ?_ ?_;·rw[wrap_i64 ⟨by omega,by omega⟩,er bo,eL,M5];simp
   refine aQ.mk _ (bl (i:=i) (by omega)) ?_;exact⟨i+1,⟨by omega,by omega⟩,.refl,cI,.nil⟩
  ·have bS:g.n<=i:=by simpa using h
   refine⟨_,_,.refl,?_,rfl,rfl⟩;rw[dX (by omega)];rfl
def iZ(deb:List Int)(g:bP):Bool:=
 decide (64<g.n)||((!g.ds.all λd=>hD d.t)||(decide (1024<pT g)||decide (8192<(ik deb g.ds []).length)))
def aeY(bA:fr I deb)(ao:g.ok I):Spec Tryz.prog 83 [g.val] I [] (λv I' M'=>v=.bool (iZ deb g)/\(∀ b o,I b=some o->I' b=some o)/\M'=[]):=by
 refine bn [] aI Tryz.func83 rfl rfl rfl ?_;intro B av;have cK:=ao.n;refine aB.mk (λU=>?_) (λU=>?_)
 ·refine⟨_,_,.refl,?_,λ_ _ h=>h,rfl⟩;have:64<g.n:=by simp at U;omega
  simp[iZ,this]
 ·have az:g.n<=64:=by simp at U;omega
  have c9:iZ deb g=((!g.ds.all λd=>hD d.t)||(decide (1024<pT g)||decide (8192<(ik deb g.ds []).length))):=by
   have:¬ 64<g.n:=by omega
   simp[iZ,this]
  rw[c9];refine bu.inv (ι:=Nat) (λi=>{ a4:=[(1,.ref 1 0),(10,.val (.slice g.a g.n g.c)),(11,.val (.int .i64 g.n)),(12,.val (.int .i64 i))],cl:=[(1,[.slice g.a g.n g.c])],br:=I }) (λi=>i<=g.n/\(g.ds.take i).all (λd=>hD d.t)=true) (λi=>g.n-i) ?_ ?_;·exact⟨0,⟨by simp,rfl⟩,.refl,cI,.cons rfl .nil⟩
  ·rintro i⟨hi,eg⟩;refine aB.mk (λh=>?_) (λh=>?_)
   ·have ax:i<g.n:=by simpa using h
    have bo:i<g.ds.length:=by omega
    obtain⟨ad,ba,a3⟩:=ao.aJ.row aK.bI ax bo;have cN:g.ds[i]∈g.ds:=bJ bo;refine aW.mk ad i ba rfl ax ?_;refine aE.mk _ (a3 _) ?_;refine aU.mk [] [] _ (.refl _) (aeb bA.c (ao.ds _ cN).t) ?_;rintro v I' M' -⟨rfl,rfl,rfl⟩;refine aB.mk (λab=>?_) (λab=>?_)
    ·refine⟨_,_,.refl,?_,λ_ _ h=>h,rfl⟩;have au:hD g.ds[i].t=false:=by simpa using ab
     have:(g.ds.all λd=>hD d.t)=false:=by rw[Fu];exact⟨_,cN,by simp[au]⟩
     rw[this];rfl
    ·have au:hD g.ds[i].t=true:=by simpa using ab
     refine aQ.mk _ (bl (i:=i) (by omega)) ?_;refine⟨i+1,⟨⟨by omega,?_⟩,by omega⟩,.refl,cI,.cons rfl .nil⟩;rw[er bo,Fv,eg];simp[au]
   ·have bS:g.n<=i:=by simpa using h
    rw[dX (by omega)]at eg;rw[eg];have UA:∀ d∈g.ds,d.t.n<=1024:=λd al=>by have:=et.1 eg d al;unfold hD at this;simp only[b',fk]at this;exact this.1
    refine aU.mk [] [] _ (.refl _) (aeX bA.c ao az UA) ?_;rintro v I' M' -⟨rfl,rfl,rfl⟩;refine a9.mk (λab=>?_) (λab=>?_)
    ·refine aU.mk [] [] _ (.refl _) (aeV bA ao az UA) ?_;rintro v dG M' -⟨rfl,ed,rfl⟩;refine⟨_,_,.refl,?_,ed,rfl⟩;have gx:¬ 1024<pT g:=by simp at ab;omega
     simp[gx];omega
    ·refine⟨_,_,.refl,?_,λ_ _ h=>h,rfl⟩;have gx:1024<pT g:=by simp at ab;omega
     simp[gx]
def cy(name:ByteArray):List aK->Nat->Int
 |[],_=>-1| d::ds,i=>bif decide (d.name=name)then(i:Int)else cy name ds (i+1)
def UB(ao:g.ok I)(name:ByteArray):Spec Tryz.prog 71 [g.val,.string name] I [] (λv I' M'=>v=.int .i64 (cy name g.ds 0)/\I'=I/\M'=[]):=by
 refine bn [] aI Tryz.func71 rfl rfl rfl ?_;intro B av;have cK:=ao.n;have gk:=ao.aJ.cap;refine bu.inv (ι:=Nat) (λi=>{ a4:=[(1,.val (.string name)),(8,.val (.slice g.a g.n g.c)),(9,.val (.int .i64 g.n)),(10,.val (.int .i64 i))],br:=I }) (λi=>i<=g.n/\cy name g.ds 0=cy name (g.ds.drop i) i) (λi=>g.n-i) ?_ ?_
 ·exact⟨0,⟨by simp,rfl⟩,.refl,cI,.nil⟩
 ·rintro i⟨hi,au⟩;refine aB.mk (λh=>?_) (λh=>?_)
  ·have ax:i<g.n:=by simpa using h
   have bo:i<g.ds.length:=by omega
   obtain⟨ad,ba,a3⟩:=ao.aJ.row aK.bI ax bo;have fO:g.ds.drop i=g.ds[i]::g.ds.drop (i+1):=dv bo;refine aW.mk ad i ba rfl ax ?_;refine aE.mk _ (a3 _) ?_;refine aB.mk (λab=>?_) (λab=>?_);·refine⟨_,_,.refl,?_,rfl,rfl⟩;rw[au,fO,cy,ab];rfl
   ·refine aQ.mk _ (bl (i:=i) (by omega)) ?_;refine⟨i+1,⟨⟨by omega,?_⟩,by omega⟩,.refl,cI,.nil⟩;rw[au,fO,cy,ab];rfl
  ·have bS:g.n<=i:=by simpa using h
   refine⟨_,_,.refl,?_,rfl,rfl⟩;rw[au,iW (by omega)];rfl
def drop_cons{L:List α}{x:α}{rest:List α}(h:L.drop k=x::rest):∃ af:k<L.length,L[k]=x/\L.drop (k+1)=rest:=by
 have af:k<L.length:=by apply IH;intro hle;rw[iW hle]at h;cases h
 have al:=dv af;rw[h]at al;obtain⟨U,ab⟩:=List.cons.inj al;exact⟨af,U.symm,ab.symm⟩
def sV:Nat->List aK->List (List Value)
 |_,[]=>[]| i,d::ds=>d.t.aa.map (λn=>[.int .i64 i,n.val])++sV (i+1) ds
def aeZ(g:bP):Spec Tryz.prog 84 [g.val] I [] λr I' M'=>∃ b,r=.func (.func 112) #[] #[ptr b]/\I' b=some (.cells #[.slice g.a g.n g.c] 24 (0,0))/\(∀ b o,I b=some o->I' b=some o)/\M'=[]:=by refine bn [1] aI Tryz.func84 rfl rfl rfl ?_;intro B av;refine bL.mk λg ao yM=>?_;exact⟨_,_,.pt rfl (by simp) .refl,g,rfl,tP ..,nx ao,rfl⟩
def ae0(ao:g.ok I){b:Nat}(ah:I b=some (.cells #[.slice g.a g.n g.c] 24 (0,0))) :
  Iter Tryz.prog 112 [ptr b] I (sV 0 g.ds):=by
 intro l R tH yQ dM M0 xo k8;refine EZ [] aI Tryz.func112 rfl rfl rfl ?_;intro B av;have cK:=ao.n;have gk:=ao.aJ.cap;have a3:∀ (M:List aD),bq dM M ((⟨b,0,none⟩:Addr).add 0) 1 [.slice g.a g.n g.c]:=λM=>⟨rfl,_,_,_,.inl (xo _ _ ah),rfl,rfl⟩;refine aE.mk _ (a3 _) ?_;refine bu.inv (ι:=Nat×Nat×aT×List aD) (λx=>{ a4:=[(0,.val (.func (.yield l) #[] #[])),(8,.val (.slice g.a g.n g.c)),(9,.val (.int .i64 g.n)),(10,.val (.int .i64 x.1))],br:=x.2.2.1,bO:=x.2.2.2 }) (λx=>x.1<=g.n/\(∀ b o,I b=some o->x.2.2.1 b=some o)/\R x.2.1 x.2.2.1 x.2.2.2/\x.2.1<=(sV 0 g.ds).length/\(sV 0 g.ds).drop x.2.1=sV x.1 (g.ds.drop x.1)) (λx=>g.n-x.1) ?_ ?_
 ·exact⟨(0,0,dM,M0),⟨by simp,xo,k8,by simp,rfl⟩,.refl,cI,.nil⟩
 ·rintro⟨i,k,bR,M1⟩⟨hi,bK,mq,bj,gU⟩;simp only at hi bK mq bj gU;refine aB.mk (λh=>?_) (λh=>?_)
  ·have ax:i<g.n:=by simpa using h
   have bo:i<g.ds.length:=by omega
   have k':=ao.mono bK;obtain⟨ad,ba,ae1⟩:=k'.aJ.row aK.bI ax bo;have cN:g.ds[i]∈g.ds:=bJ bo;have g7:=(ao.ds _ cN).t.n;have aqD:=(ao.ds _ cN).t.aJ.cap;have fO:g.ds.drop i=g.ds[i]::g.ds.drop (i+1):=dv bo;refine aW.mk ad i ba rfl ax ?_;refine aE.mk _ (ae1 _) ?_;refine bu.inv (ι:=Nat×Nat×aT×List aD) (λx=>{ a4:=[(0,.val (.func (.yield l) #[] #[])),(3,.val (.int .i64 i)),(8,.val (.slice g.a g.n g.c)),(9,.val (.int .i64 g.n)),(10,.val (.int .i64 i)),(17,.val (.slice g.ds[i].t.a g.ds[i].t.n g.ds[i].t.c)),(18,.val (.int .i64 g.ds[i].t.n)),(19,.val (.int .i64 x.1))],br:=x.2.2.1,bO:=x.2.2.2 }) (λx=>x.1<=g.ds[i].t.n/\(∀ b o,I b=some o->x.2.2.1 b=some o)/\R x.2.1 x.2.2.1 x.2.2.2/\x.2.1<=(sV 0 g.ds).length/\(sV 0 g.ds).drop x.2.1=(g.ds[i].t.aa.drop x.1).map (λn=>[.int .i64 i,n.val])++sV (i+1) (g.ds.drop (i+1))) (λx=>g.ds[i].t.n-x.1) ?_ ?_;·refine⟨(0,k,bR,M1),⟨by simp,bK,mq,bj,?_⟩,.refl,tF,.nil⟩;simp only;rw[gU,fO];rfl
   ·rintro⟨j,k,bR,M1⟩⟨aj,bK,mq,bj,gU⟩;simp only at aj bK mq bj gU;refine aB.mk (λh=>?_) (λh=>?_)
    ·have eS:j<g.ds[i].t.n:=by simpa using h
     have hR:j<g.ds[i].t.aa.length:=by omega
     have k':=ao.mono bK;obtain⟨tZ,rT,ji⟩:=(k'.ds _ cN).t.aJ.row aH.bI eS hR;have bW:g.ds[i].t.aa.drop j=g.ds[i].t.aa[j]::g.ds[i].t.aa.drop (j+1):=dv hR;rw[bW,cZ,oO]at gU;obtain⟨af,ai,mu⟩:=drop_cons gU;refine aW.mk tZ j rT rfl eS ?_;refine aE.mk _ (ji _) ?_;refine bk.yield rfl (by simp) rfl rfl ?_;have aA:=yQ k af bR M1 bK mq;rw[ai]at aA;refine IK.mk M1 [] _ (by simp) aA ?_;rintro v dG ew ed (⟨rfl,qH⟩ | ⟨rfl,ae⟩);·refine aB.mk (λh=>by simp at h) (λ_=>?_);refine aQ.mk _ (bl (i:=j) (by omega)) ?_;exact⟨(j+1,k+1,dG,ew),⟨⟨by simp only;omega,λb o h=>ed b o (bK b o h),qH,af,mu⟩,by simp only;omega⟩,.perm (by simp) .refl,tF,.nil⟩
     ·refine aB.mk (λ_=>?_) (λh=>by simp at h);exact⟨_,_,.perm (by simp) .refl,.inr ae⟩
    ·have bS:g.ds[i].t.n<=j:=by simpa using h
     rw[iW (show g.ds[i].t.aa.length<=j by omega),jj,hO]at gU;refine aQ.mk _ (bl (i:=i) (by omega)) ?_;exact⟨(i+1,k,bR,M1),⟨⟨by simp only;omega,bK,mq,bj,gU⟩,by simp only;omega⟩,.refl,cI,.nil⟩
  ·have bS:g.n<=i:=by simpa using h
   refine⟨_,_,.refl,.inl ?_⟩;rw[iW (show g.ds.length<=i by omega)]at gU;have mY:k=(sV 0 g.ds).length:=by have:=Ms.1 gU;omega
   rw[<-mY];exact mq
def g8(aa:List aH):List ByteArray:=(aa.filter λd=>decide (d.k=3)).map (·.t)
def ae2(t:bx):Spec Tryz.prog 94 [t.val] I [] λr I' M'=>∃ b,r=.func (.func 121) #[] #[ptr b]/\I' b=some (.cells #[.slice t.a t.n t.c,.int .i64 t.root] 46 (0,0))/\(∀ b o,I b=some o->I' b=some o)/\M'=[]:=by refine bn [1] aI Tryz.func94 rfl rfl rfl ?_;intro B av;refine bL.mk λg ao yM=>?_;exact⟨_,_,.pt rfl (by simp) .refl,g,rfl,tP ..,nx ao,rfl⟩
def ae3(aq:t.ok I){b:Nat}(ah:I b=some (.cells #[.slice t.a t.n t.c,.int .i64 t.root] 46 (0,0))) :
  Iter Tryz.prog 121 [ptr b] I ((g8 t.aa).map λs=>[.string s]):=by
 intro l R tH yQ dM M0 xo k8;refine EZ [] aI Tryz.func121 rfl rfl rfl ?_;intro B av;have g7:=aq.n;have gk:=aq.aJ.cap;have a3:∀ (M:List aD),bq dM M ((⟨b,0,none⟩:Addr).add 0) 1 [.slice t.a t.n t.c]:=λM=>⟨rfl,_,_,_,.inl (xo _ _ ah),rfl,rfl⟩;refine aE.mk _ (a3 _) ?_;refine bu.inv (ι:=Nat×Nat×aT×List aD) (λx=>{ a4:=[(0,.val (.func (.yield l) #[] #[])),(6,.val (.slice t.a t.n t.c)),(7,.val (.int .i64 t.n)),(8,.val (.int .i64 x.1))],br:=x.2.2.1,bO:=x.2.2.2 }) (λx=>x.1<=t.n/\(∀ b o,I b=some o->x.2.2.1 b=some o)/\R x.2.1 x.2.2.1 x.2.2.2/\x.2.1<=((g8 t.aa).map λs=>[Value.string s]).length/\((g8 t.aa).map λs=>[Value.string s]).drop x.2.1=(g8 (t.aa.drop x.1)).map λs=>[.string s]) (λx=>t.n-x.1) ?_ ?_
 ·exact⟨(0,0,dM,M0),⟨by simp,xo,k8,by simp,rfl⟩,.refl,cI,.nil⟩
 ·rintro⟨j,k,bR,M1⟩⟨aj,bK,mq,bj,gU⟩;simp only at aj bK mq bj gU;refine aB.mk (λh=>?_) (λh=>?_)
  ·have eS:j<t.n:=by simpa using h
   have hR:j<t.aa.length:=by omega
   have pQ:=aq.mono bK;obtain⟨tZ,rT,ji⟩:=pQ.aJ.row aH.bI eS hR;have bW:t.aa.drop j=t.aa[j]::t.aa.drop (j+1):=dv hR;refine aW.mk tZ j rT rfl eS ?_;refine aE.mk _ (ji _) ?_;refine a9.mk (λU=>?_) (λU=>?_)
   ·have jk:g8 (t.aa.drop j)=t.aa[j].t::g8 (t.aa.drop (j+1)):=by rw[bW];simp only[g8,u7,U,nU,cZ]
    rw[jk,cZ]at gU;obtain⟨af,ai,mu⟩:=drop_cons gU;refine bk.yield rfl (by simp) rfl rfl ?_;have aA:=yQ k af bR M1 bK mq;rw[ai]at aA;refine IK.mk M1 [] _ (by simp) aA ?_;rintro v dG ew ed (⟨rfl,qH⟩ | ⟨rfl,ae⟩);·refine aB.mk (λh=>by simp at h) (λ_=>?_);refine aQ.mk _ (bl (i:=j) (by omega)) ?_;exact⟨(j+1,k+1,dG,ew),⟨⟨by simp only;omega,λb o h=>ed b o (bK b o h),qH,af,mu⟩,by simp only;omega⟩,.perm (by simp) .refl,cI,.nil⟩
    ·refine aB.mk (λ_=>?_) (λh=>by simp at h);exact⟨_,_,.perm (by simp) .refl,.inr ae⟩
   ·have jk:g8 (t.aa.drop j)=g8 (t.aa.drop (j+1)):=by rw[bW];have jL:decide (t.aa[j].k=3)=false:=U;simp only[g8,u7,jL];rfl
    rw[jk]at gU;refine aQ.mk _ (bl (i:=j) (by omega)) ?_;exact⟨(j+1,k,bR,M1),⟨⟨by simp only;omega,bK,mq,bj,gU⟩,by simp only;omega⟩,.refl,cI,.nil⟩
  ·have bS:t.n<=j:=by simpa using h
   refine⟨_,_,.refl,.inl ?_⟩;rw[iW (show t.aa.length<=j by omega)]at gU;have mY:k=((g8 t.aa).map λs=>[Value.string s]).length:=by have:=Ms.1 gU;omega
   rw[<-mY];exact mq
section
variable{X:cO}{β:Nat->Nat}{a:Act}{w:World}{F:Fr}{C:c8}{I:aT}{M:List aD}{o:Oper}{K:fZ}
def cP.swap{n:Nat}{mm Jd:Obj}{w':World}(h:cP X β a w F C I (⟨n,mm⟩::M))(ar:w'.heap.size=w.heap.size)(az:w'.heap[n]?=some Jd)(ah:∀ b,b≠n->w'.heap[b]?=w.heap[b]?)(aP:nW w w'):cP X β a w' F C I (⟨n,Jd⟩::M):=by
 have U:=h.Tt ar ah aP;have fv:(⟨n,mm⟩:aD)∈(⟨n,mm⟩:aD)::M:=by simp
 have bW:=h.holds.bE;simp only[cZ,nR]at bW;have mem:∀ x,x∈(⟨n,Jd⟩:aD)::M->x=⟨n,Jd⟩\/x∈M:=λx ae=>ea.1 ae;exact {
  size:=U.size
  defers:=by
   obtain⟨aJ,aF,a7,bC⟩:=U.defers;obtain⟨ae4,f1,f2,f3⟩:=h.defers;refine⟨aJ,aF,a7,λr ag=>{ bC r ag with eM:=λx ae=>?_ }⟩;rcases mem x ae with rfl | ae
   ·have di:aJ=ae4:=by
     have:=aF.symm.trans f1;have AU:∀ l dy:List Nat,l.map wZ=dy.map wZ->l=dy:=by
      intro l
      induction l with
      |nil=>intro dy h;cases dy with
       |nil=>rfl| cons=>simp at h
      |cons y l a8=>intro dy h;cases dy with
       |nil=>simp at h
       |cons z dy=>
        simp only[cZ,CW,wZ,Deferred.mk.injEq]at h;have aA:y=z:=by simpa using h.1
        rw[aA,a8 dy h.2]
     exact AU _ _ this
    subst di;exact(f3 r ag).eM ⟨n,mm⟩ fv
   ·exact(bC r ag).eM x ae
  holds:={
   i:=U.holds.i
   m:=λx ae=>by
    rcases mem x ae with rfl | ae;·exact az
    ·exact U.holds.m x ae
   d:=λx ae=>by
    rcases mem x ae with rfl | ae;·exact h.holds.d ⟨n,mm⟩ fv
    ·exact U.holds.d x ae
   bE:=by simpa using bW }
  an:=h.an
  cf:=λs cs mS=>by
   have qw:=h.cf s cs mS;refine { U.cf s cs mS with eM:=λx ae=>?_ };rcases mem x ae with rfl | ae;·exact qw.eM ⟨n,mm⟩ fv
   ·exact(U.cf s cs mS).eM x ae
  inj:=h.inj
  hL:=h.hL
  hl:=h.hl
  own:=λx ae=>by
   rcases mem x ae with rfl | ae;·exact h.own ⟨n,mm⟩ fv
   ·exact U.own x ae
  dL:=U.dL
  out:=U.out
  sz:=U.sz }
def oe(l:List (ByteArray×Int)):Nat->List MapEntry
 |i=>match l with
  |[]=>[]| p::l=>{ key:=.string p.1,val:=.int .i64 p.2,born:=i }::oe l (i+1)
def i'(l:List (ByteArray×Int)):Obj:=.map (oe l 0).toArray l.length
def dP(s:ByteArray):List (ByteArray×Int)->Option Int
 |[]=>none| p::l=>bif decide (s=p.1)then some p.2 else dP s l
def ae5(l:List (ByteArray×Int))(p:ByteArray×Int):∀ i,oe (l++[p]) i=oe l i++[{ key:=.string p.1,val:=.int .i64 p.2,born:=i+l.length }]:=by
 induction l with
 |nil=>intro i;simp[oe]| cons q l a8=>intro i;simp only[oO,oe,a8,cS,CW,true_and,List.append_cancel_left_eq,MapEntry.mk.injEq,and_true];omega
def bytes_beq(a b:ByteArray):(a == b)=decide (a=b):=by
 rw[l7];simp only[fk];constructor
 ·intro h
  first | exact eq_of_beq h | exact qo (eq_of_beq (a:=a.data) (b:=b.data) h)
 ·rintro rfl
  first | exact Ck _ | exact Ck a.data
def Je(s:ByteArray):∀ (l:List (ByteArray×Int)) (i j:Nat),∃ r,Instr.findNow .string (.string s) (oe l i) j=some r/\r.map (·.2)=(dP s l).map (Value.int .i64)
 |[],i,j=>⟨none,rfl,rfl⟩
 |p::l,i,j=>by
  obtain⟨r,U,ab⟩:=Je s l (i+1) (j+1);unfold oe Instr.findNow;simp only[Instr.sameNow,bytes_beq];cases ah:decide (s=p.1)with
  |true=>exact⟨_,rfl,by simp[dP,ah]⟩| false=>exact⟨r,U,by simp only[dP,ah,bz];exact ab⟩
def bk.makeMap(aR:cX X.P X.E){t:Nat}{r:Operand}(aP:o.op=.makeMap t (some r))(al:∀ d,o.dst=some d->d<X.n){e:Nat}(aq:X.E t=some dr)(eo:dr.bH=.map k e)
  {q:IntKind} {n:Int} (ag:bY F r=.val (.int q n)) (h:∀ b,K (put o.dst (.val (.map (some b))) F) C I (⟨b,i' []⟩::M)):bk X o F C I M K:=by
 refine⟨λa w Q ⟨β,a5⟩=>?_⟩;obtain⟨d,fp,eY⟩:=(aR _ _ aq).fl;have U:d=.map k e:=by rw[eo]at eY;cases d<;>simp_all[fe]
 subst U;have Nm:=dx a5.an ag;refine j3 (by rw[aP];simp) (v:=.map (some w.heap.size)) (w':=w.alloc (.map #[] 0)) ?_ ⟨_,_,_,_,⟨β,cP.put (x:=.val (.map (some w.heap.size))) (a5.pu (i' [])) al rfl⟩,h _⟩;unfold execOp;simp only[aP,mK,Nm];simp[Instr.makeMap,run_underlying fp,asInt,px]
def bk.lookup(aR:cX X.P X.E){t:Nat}(aP:o.op=.lookup t x y true)(al:∀ d,o.dst=some d->d<X.n){e:Nat}(aq:X.E t=some dr)(eo:dr.bH=.map k e)(af:X.E k=some sT)(hT:sT.bH=.string)(a2:∀ w,(zeroValue e).run X.P w=.ok (.int .i64 0) w){g:Nat}(ae:bY F x=.val (.map (some g)))(aA:bY F y=.val (.string s))(aV:(⟨g,i' l⟩:aD)∈M)
  (h:K (put o.dst (.val (.tuple #[.int .i64 ((dP s l).getD 0),.bool (dP s l).isSome])) F) C I M):bk X o F C I M K:=by
 refine⟨λa w Q ⟨β,a5⟩=>?_⟩;obtain⟨d,fp,eY⟩:=(aR _ _ aq).fl;have U:d=.map k e:=by rw[eo]at eY;cases d<;>simp_all[fe]
 subst U;obtain⟨rU,rV,fz⟩:=(aR _ _ af).fl;have ab:rU=.string:=by rw[hT]at fz;cases rU<;>simp_all[fe]
 subst ab;have ao:w.heap[g]?=some (.map (oe l 0).toArray l.length):=a5.holds.m _ aV;have ex:=dx a5.an ae;have mX:=dx a5.an aA;obtain⟨r,tz,lf⟩:=Je s l 0 0;have aC:(Instr.checkKey (oe l 0).toArray.isEmpty 10000 k (.string s)).run X.P w=.ok () w:=CT (k:=.string s) rV (by simp[MapKept.IsKey]) _ 9999;have t':(Instr.findKey k (.string s) (oe l 0)).run X.P w=.ok r w:=CU rV tz;have fm:(Instr.lookup t (.map (some g)) (.string s) true).run X.P w=.ok (.tuple #[.int .i64 ((dP s l).getD 0),.bool (dP s l).isSome]) w:=by
  unfold Instr.lookup;simp only[b8,run_underlying fp,bU,CR ao,c3,aC,t'];cases r with
  |none=>
   cases ay:dP s l with
   |none=>simp[a2]| some v=>rw[ay]at lf;simp at lf
  |some p=>
   cases ay:dP s l with
   |none=>rw[ay]at lf;simp at lf| some v=>rw[ay]at lf;simp only[mK,jY]at lf;simp[lf]
 refine va a5 al (by rw[aP];simp) ?_ h;unfold execOp;simp only[aP,ex,mX,b8,fm,bU,c3]
def bk.UC(aR:cX X.P X.E){t:Nat}{z:Operand}(aP:o.op=.mapUpdate t x y z)(al:o.dst=none){e:Nat}(aq:X.E t=some dr)(eo:dr.bH=.map k e)(af:X.E k=some sT)(hT:sT.bH=.string)
  {g:Nat} {v:Int} (ae:bY F x=.val (.map (some g))) (aA:bY F y=.val (.string s)) (Ai:bY F z=.val (.int .i64 v)) (ay:dP s l=none)
  {Mr:List aD} (aV:M.Perm (⟨g,i' l⟩::Mr)) (h:K F C I (⟨g,i' (l++[(s,v)])⟩::Mr)):bk X o F C I M K:=by
 refine⟨λa w Q ⟨β,k8⟩=>?_⟩;have a5:cP X β a w F C I (⟨g,i' l⟩::Mr):=k8.jg (.perm aV .refl);obtain⟨d,fp,eY⟩:=(aR _ _ aq).fl;have U:d=.map k e:=by rw[eo]at eY;cases d<;>simp_all[fe]
 subst U;obtain⟨rU,rV,fz⟩:=(aR _ _ af).fl;have ab:rU=.string:=by rw[hT]at fz;cases rU<;>simp_all[fe]
 subst ab;have ao:w.heap[g]?=some (.map (oe l 0).toArray l.length):=a5.holds.m ⟨g,i' l⟩ (by simp);have ex:=dx a5.an ae;have mX:=dx a5.an aA;have Nn:=dx a5.an Ai;obtain⟨r,tz,lf⟩:=Je s l 0 0;have ag:r=none:=by
  rw[ay]at lf;cases r with
  |none=>rfl| some _=>simp at lf
 subst ag;have aC:(Instr.checkKey false 10000 k (.string s)).run X.P w=.ok () w:=CT (k:=.string s) rV (by simp[MapKept.IsKey]) _ 9999;have t':(Instr.findKey k (.string s) (oe l 0)).run X.P w=.ok none w:=CU rV tz;have gK:i' (l++[(s,v)])=.map ((oe l 0).toArray.push { key:=.string s,val:=.int .i64 v,born:=l.length }) (l.length+1):=by unfold i';rw[ae5];simp
 have fm:(Instr.mapUpdate t (.map (some g)) (.string s) (.int .i64 v)).run X.P w=.ok () { w with heap:=w.heap.setIfInBounds g (i' (l++[(s,v)])) }:=by unfold Instr.mapUpdate;simp only[b8,run_underlying fp,bU,CR ao,aC,t',MY _ ao,gK]
 have fN:=MapKept.heap_set (o':=i' (l++[(s,v)])) ao;refine Cp (by rw[aP];simp) (w':={ w with heap:=w.heap.setIfInBounds g (i' (l++[(s,v)])) }) ?_ ⟨F,C,I,_,⟨β,?_⟩,h⟩
 ·unfold execOp;simp only[aP,ex,mX,Nn,b8,fm,bU,c3]
 ·rw[al];exact a5.swap (by simp) fN.1 fN.2 ⟨rfl,rfl⟩
end
def pU:Nat->List aK->List (Nat×aH)
 |_,[]=>[]| i,d::ds=>d.t.aa.map (λn=>(i,n))++pU (i+1) ds
def FJ:∀ (ds:List aK) (i:Nat),sV i ds=(pU i ds).map λp=>[.int .i64 p.1,p.2.val]
 |[],i=>rfl| d::ds,i=>by simp only[sV,pU,eL,sS,FJ ds (i+1)];rfl
def mv(ds:List aK):Bool:=ds.all λd=>h0 d.name&&normal d.t
def lg:List (ByteArray×Int)->Nat->List aK->Option (List (ByteArray×Int))
 |acc,_,[]=>some acc| acc,i,d::ds=>bif (dP d.name acc).isSome then none else lg (acc++[(d.name,(i:Int))]) (i+1) ds
def yX(acc:List (ByteArray×Int))(n:aH):Bool:=!decide (n.k=3)||(dP n.t acc).isSome
def qO(acc:List (ByteArray×Int))(ds:List aK):Bool:=(pU 0 ds).all λp=>yX acc p.2
def cn(deb:List Int)(g:bP):Int:=
 bif decide ((g.n:Int)=0)then 4 else bif !mv g.ds then 4 else bif iZ deb g then 40 else
 match lg [] 0 g.ds with
 |none=>6| some acc=>bif qO acc g.ds then 0 else 41
def ua(b:Nat)(e:Int):aD:=⟨b,.cells #[.int .i64 e] 36 (0,0)⟩
def AV{b:Nat}{e:Int}(h:ua b e∈M):bq I M ⟨b,0,none⟩ 1 [.int .i64 e]:=
 ⟨rfl,_,_,_,.inr ⟨_,h,rfl,rfl⟩,rfl,rfl⟩
def FK(w:World):(zeroValue 3).run Tryz.prog w=.ok (.int .i64 0) w:=by
 have h:(Tryz.prog.info? 3).map (λi=>i.zero)=some (some (.int .i64 0)):=by kernel_rfl
 obtain⟨i,U,ab⟩:=u5.1 h;simp[zeroValue,typeInfo,U,ab]
def Jf(bA:fr I deb)(ao:g.ok I):Spec Tryz.prog 53 [g.val] I [] (λv I' M'=>v=.int .i64 (cn deb g)/\(∀ b o,I b=some o->I' b=some o)/\M'=[]):=by
 refine bn [2,5] aI Tryz.func53 rfl rfl rfl ?_;intro B av;have cK:=ao.n;have gk:=ao.aJ.cap;refine bL.mk λcc hc FL=>?_;refine aB.mk (λU=>?_) (λU=>?_)
 ·refine cu.mk [] [] _ _ rfl rfl (b9 rfl) rfl ?_;refine aE.mk _ (AV (b:=cc) (e:=4) (.head _)) ?_;refine⟨_,_,.sub (cW _) .refl,?_,λ_ _ h=>h,rfl⟩;rw[cn,U];rfl
 ·have g2:g.n≠0:=by simp at U;omega
  refine bu.inv (ι:=Nat) (λi=>{ a4:=[(1,.ref 1 0),(2,.val (ptr cc)),(19,.val (.slice g.a g.n g.c)),(20,.val (.int .i64 g.n)),(21,.val (.int .i64 i))],cl:=[(1,[.slice g.a g.n g.c])],br:=I,bO:=[ua cc 0] }) (λi=>i<=g.n/\mv (g.ds.take i)=true) (λi=>g.n-i) ?_ ?_;·exact⟨0,⟨by simp,rfl⟩,.refl,ec,.cons rfl .nil⟩
  ·rintro i⟨hi,eg⟩;refine aB.mk (λh=>?_) (λh=>?_)
   ·have ax:i<g.n:=by simpa using h
    have bo:i<g.ds.length:=by omega
    obtain⟨ad,ba,a3⟩:=ao.aJ.row aK.bI ax bo;have cN:g.ds[i]∈g.ds:=bJ bo;have bad:(h0 g.ds[i].name&&normal g.ds[i].t)=false->cn deb g=4:=λah=>by
     have:mv g.ds=false:=by unfold mv;rw[Fu];exact⟨_,cN,by simp[ah]⟩
     rw[cn,U,this];rfl
    refine aW.mk ad i ba rfl ax ?_;refine aE.mk _ (a3 _) ?_;refine aU.mk [] [ua cc 0] _ (.refl _) (ML _ g.ds[i].name) ?_;rintro v I' M' -⟨rfl,rfl,rfl⟩;refine a9.mk (λab=>?_) (λab=>?_)
    ·have hm:h0 g.ds[i].name=true:=by simpa using ab
     refine aU.mk [] [ua cc 0] _ (.refl _) (aeW bA.c (ao.ds _ cN).t) ?_;rintro v I' M' -⟨rfl,rfl,rfl⟩;refine aB.mk (λak=>?_) (λak=>?_)
     ·have cm:normal g.ds[i].t=false:=by simpa using ak
      refine cu.mk [] [] _ _ rfl rfl (b9 rfl) rfl ?_;refine aE.mk _ (AV (b:=cc) (e:=4) (.head _)) ?_;refine⟨_,_,.sub (cW _) .refl,?_,λ_ _ h=>h,rfl⟩;rw[bad (by rw[hm,cm];rfl)];rfl
     ·have cm:normal g.ds[i].t=true:=by simpa using ak
      refine aQ.mk _ (bl (i:=i) (by omega)) ?_;refine⟨i+1,⟨⟨by omega,?_⟩,by omega⟩,.refl,ec,.cons rfl .nil⟩;unfold mv at eg |-;rw[er bo,Fv,eg];simp[hm,cm]
    ·have hm:h0 g.ds[i].name=false:=by simpa using ab
     refine cu.mk [] [] _ _ rfl rfl (b9 rfl) rfl ?_;refine aE.mk _ (AV (b:=cc) (e:=4) (.head _)) ?_;refine⟨_,_,.sub (cW _) .refl,?_,λ_ _ h=>h,rfl⟩;rw[bad (by rw[hm];rfl)];rfl
   ·have bS:g.n<=i:=by simpa using h
    rw[dX (by omega)]at eg;refine aU.mk [] [ua cc 0] _ (.refl _) (aeY bA ao) ?_;rintro v bR M' -⟨rfl,bK,rfl⟩;refine aB.mk (λab=>?_) (λab=>?_);·refine cu.mk [] [] _ _ rfl rfl (b9 rfl) rfl ?_;refine aE.mk _ (AV (b:=cc) (e:=40) (.head _)) ?_;refine⟨_,_,.sub (cW _) .refl,?_,bK,rfl⟩;rw[cn,U,eg,ab];rfl
    ·have ae6:cn deb g=match lg [] 0 g.ds with
       |none=>6| some acc=>bif qO acc g.ds then 0 else 41:=by
      rw[cn,U,eg,ab];rfl
     rw[ae6];have k':=ao.mono bK;refine bk.makeMap aI rfl (by simp) rfl rfl rfl λjl=>?_;refine bL.mk λfS Jg Jh=>?_;refine cu.mk [] [⟨jl,i' []⟩,ua cc 0] _ _ rfl rfl (b9 rfl) rfl ?_;refine bu.inv (ι:=Nat×List (ByteArray×Int)) (λx=>{ a4:=[(1,.ref 1 0),(2,.val (ptr cc)),(5,.val (ptr fS)),(43,.val (.slice g.a g.n g.c)),(44,.val (.int .i64 g.n)),(45,.val (.int .i64 x.1))],cl:=[(1,[.slice g.a g.n g.c])],br:=bR,bO:=[⟨fS,.cells #[.map (some jl)] 121 (0,0)⟩,⟨jl,i' x.2⟩,ua cc 0] }) (λx=>x.1<=g.n/\lg [] 0 g.ds=lg x.2 x.1 (g.ds.drop x.1)) (λx=>g.n-x.1) ?_ ?_;·exact⟨(0,[]),⟨by simp,rfl⟩,.refl,jD,.cons rfl .nil⟩
     ·rintro⟨i,acc⟩⟨hi,pK⟩;simp only at hi pK;refine aB.mk (λh=>?_) (λh=>?_)
      ·have ax:i<g.n:=by simpa using h
       have bo:i<g.ds.length:=by omega
       obtain⟨ad,ba,a3⟩:=k'.aJ.row aK.bI ax bo;have fO:g.ds.drop i=g.ds[i]::g.ds.drop (i+1):=dv bo;refine aW.mk ad i ba rfl ax ?_;refine aE.mk _ (a3 _) ?_;refine aE.mk [.map (some jl)] ⟨rfl,_,_,_,.inr ⟨_,.head _,rfl,rfl⟩,rfl,rfl⟩ ?_;refine bk.lookup aI rfl (by simp) rfl rfl rfl rfl (λw=>FK w) (l:=acc) (g:=jl) rfl rfl (by simp) ?_;refine aB.mk (λak=>?_) (λak=>?_);·refine cu.mk [⟨fS,.cells #[.map (some jl)] 121 (0,0)⟩,⟨jl,i' acc⟩] [] _ _ rfl rfl (b9 rfl) rfl ?_;refine aE.mk _ (AV (b:=cc) (e:=6) (.tail _ (.tail _ (.head _)))) ?_;refine⟨_,_,.sub (cW _) .refl,?_,bK,rfl⟩;rw[pK,fO,lg,ak];rfl
       ·have ay:dP g.ds[i].name acc=none:=by simpa using ak
        refine aE.mk [.map (some jl)] ⟨rfl,_,_,_,.inr ⟨_,.head _,rfl,rfl⟩,rfl,rfl⟩ ?_;refine bk.UC aI rfl rfl rfl rfl rfl rfl rfl rfl rfl ay (Mr:=[⟨fS,.cells #[.map (some jl)] 121 (0,0)⟩,ua cc 0]) (List.Perm.swap _ _ _) ?_;refine aQ.mk _ (bl (i:=i) (by omega)) ?_;refine⟨(i+1,acc++[(g.ds[i].name,(i:Int))]),⟨⟨by simp only;omega,?_⟩,by simp only;omega⟩,.perm (List.Perm.swap _ _ _) .refl,jD,.cons rfl .nil⟩;simp only;rw[pK,fO,lg,ak];rfl
      ·have UD:g.n<=i:=by simpa using h
       have eY:lg [] 0 g.ds=some acc:=by rw[pK,iW (by omega),lg]
       rw[eY];refine aU.mk [] [⟨fS,.cells #[.map (some jl)] 121 (0,0)⟩,⟨jl,i' acc⟩,ua cc 0] _ (.refl _) (aeZ g) ?_;rintro v dG ew -⟨cD,rfl,ae7,ed,rfl⟩;have lM:=k'.mono ed;have Ji:∀ b o,I b=some o->dG b=some o:=λb o h=>ed _ _ (bK _ _ h);refine cr.range aI rfl rfl rfl .refl (ae0 lM ae7) (λvs h=>?_) (λk I' M'=>(∀ b o,dG b=some o->I' b=some o)/\((pU 0 g.ds).take k).all (λp=>yX acc p.2)=true/\M'=[⟨fS,.cells #[.map (some jl)] 121 (0,0)⟩,⟨jl,i' acc⟩,ua cc 0]) (λex I' M'=>ex=.ret/\(∀ b o,dG b=some o->I' b=some o)/\qO acc g.ds=false/\M'=[⟨fS,.cells #[.map (some jl)] 121 (0,0)⟩,⟨jl,i' acc⟩,ua cc 41]) ⟨λ_ _ h=>h,rfl,rfl⟩ ?_ ?_ ?_;·rw[FJ]at h;obtain⟨p,_,rfl⟩:=dB.1 h;rfl
       ·rintro k af I' M' -⟨m0,bM,rfl⟩l B av j7;have UE:k<(pU 0 g.ds).length:=by simpa[FJ]using af
        generalize aN:(pU 0 g.ds)[k]=p;have ai:(sV 0 g.ds)[k]=[.int .i64 p.1,p.2.val]:=by simp only[FJ,oP,aN]
        rw[ai];have next:yX acc p.2=true->((pU 0 g.ds).take (k+1)).all (λp=>yX acc p.2)=true:=λh=>by rw[er UE,Fv,bM,aN];simp[h]
        refine aB.mk (λak=>?_) (λak=>?_)
        ·refine⟨_,_,.refl,m0,next ?_,rfl⟩;have o0:decide (p.2.k=3)=false:=by simpa using ak
         simp[yX,o0]
        ·have o0:decide (p.2.k=3)=true:=by simpa using ak
         refine aE.mk [.map (some jl)] ⟨rfl,_,_,_,.inr ⟨_,.head _,rfl,rfl⟩,rfl,rfl⟩ ?_;refine bk.lookup aI rfl (by simp) rfl rfl rfl rfl (λw=>FK w) (l:=acc) (g:=jl) rfl rfl (by simp) ?_;refine aB.mk (λaL=>?_) (λaL=>?_)
         ·refine cu.mk [⟨fS,.cells #[.map (some jl)] 121 (0,0)⟩,⟨jl,i' acc⟩] [] _ _ rfl rfl (b9 rfl) rfl ?_;refine⟨_,_,.refl,rfl,m0,?_,rfl⟩;unfold qO;rw[Fu];have xu:(dP p.2.t acc).isSome=false:=by simpa using aL
          exact⟨p,by rw[<-aN];exact bJ UE,by simp[yX,o0,xu]⟩
         ·have xu:(dP p.2.t acc).isSome=true:=by simpa using aL
          exact⟨_,_,.refl,m0,next (by simp[yX,xu]),rfl⟩
       ·rintro I' M' -⟨m0,bM,rfl⟩;have No:qO acc g.ds=true:=by unfold qO;rw[dX (by simp[FJ])]at bM;exact bM
        refine cu.mk [⟨fS,.cells #[.map (some jl)] 121 (0,0)⟩,⟨jl,i' acc⟩] [] _ _ rfl rfl (b9 rfl) rfl ?_;refine aE.mk _ (AV (b:=cc) (e:=0) (.tail _ (.tail _ (.head _)))) ?_;refine⟨_,_,.sub (cW _) .refl,?_,λb o h=>m0 _ _ (Ji _ _ h),rfl⟩;simp only[No];rfl
       ·rintro ex I' M' -⟨rfl,m0,No,rfl⟩;refine⟨by simp,?_⟩;refine aE.mk _ (AV (b:=cc) (e:=41) (.tail _ (.tail _ (.head _)))) ?_;refine⟨_,_,.sub (cW _) .refl,?_,λb o h=>m0 _ _ (Ji _ _ h),rfl⟩;simp only[No];rfl
structure il where
 a:Option Addr
 n:Nat
 c:Nat
 l:List Int
def il.val(r:il):Value:=.slice r.a r.n r.c
structure il.ok(I:aT)(r:il):Prop where
 aJ:gb I r.a r.n r.c 1 8 (r.l.map (.int .i64 ·))
def il.ok.n{r:il}(h:r.ok I):r.l.length=r.n:=by have:=h.aJ.len;simpa using this
def il.ok.mono{r:il}(h:r.ok I)(cg:∀ b o,I b=some o->I' b=some o):r.ok I':=⟨h.aJ.mono cg⟩
structure m5 where
 rows:List il
 a:Option Addr
 n:Nat
 c:Nat
def m5.val(x:m5):Value:=.slice x.a x.n x.c
structure m5.ok(I:aT)(x:m5):Prop where
 aJ:gb I x.a x.n x.c 1 24 (x.rows.map il.val)
 rows:∀ r∈x.rows,r.ok I
def m5.ok.n{x:m5}(h:x.ok I):x.rows.length=x.n:=by have:=h.aJ.len;simpa using this
def m5.h4(x:m5):List (List Int):=x.rows.map (·.l)
def aY.C3{e b:Nat}(h:os.ok size xs)(ah:os.n*b<=140737488355328)(cg:∀ g,os.a=some g->I g=none)(Mr:List aD) :
  ∃ I',hk [] I (os.aw e++Mr) I' Mr/\(∀ b o,I b=some o->I' b=some o)/\gb I' (os.a.map λg=>⟨g,0,none⟩) os.n os.c size b xs:=by
 obtain⟨a,n,c,cur⟩:=os;cases a with
 |none=>obtain⟨U,ab⟩:=h.nil rfl;simp only at U ab;subst U;subst ab;exact⟨I,.refl,λ_ _ h=>h,h.len,⟨b2 _,by simp⟩,.inl rfl⟩
 |some g=>obtain⟨U,ab,ak,aL⟩:=h.cap g rfl;have ao:=cg g rfl;exact⟨ins I g (.cells cur.toArray e (0,0)),.pt rfl (by simp) .refl,nx ao,h.len,⟨ab,ah⟩,.inr ⟨⟨g,0,none⟩,rfl,rfl,_,_,_,tP ..,by simpa using aL⟩⟩
def aY.UF{l:List Int}{e:Nat}(h:os.ok 1 (l.map (.int .i64 ·)))(ah:os.n*8<=140737488355328)(cg:∀ g,os.a=some g->I g=none)(Mr:List aD) :
  ∃ (I':aT) (r:il),hk [] I (os.aw e++Mr) I' Mr/\(∀ b o,I b=some o->I' b=some o)/\os.val=r.val/\r.ok I'/\r.l=l:=by
 obtain⟨I',U,ab,ak⟩:=aY.C3 (b:=8) h ah cg Mr;exact⟨I',⟨_,_,_,l⟩,U,ab,rfl,⟨ak⟩,rfl⟩
def fs:aY:=⟨none,0,0,[]⟩
def fT(size:Nat):fs.ok size []:=⟨by simp[fs],λ_=>⟨rfl,rfl⟩,λg h=>by cases h⟩
def xv(bf:os.ok 1 xs){g c:Nat}{cur:List Value}(U:cur.length=c*1)(ab:os.n+1<=c)(ak:c<=maxLen)(aL:cur.take ((os.n+1)*1)=xs++[v]) :
  aY.ok ⟨some g,os.n+1,c,cur⟩ 1 (xs++[v]):=by
 have ay:=bf.len;refine⟨?_,(λh=>by cases h),λb0 oX=>⟨U,ab,ak,aL⟩⟩;rw[cz,ay];simp
def aY.ok.o1{l:List Int}(h:os.ok 1 (l.map (Value.int .i64))):os.n=l.length:=by have:=h.len;simp at this;omega
def UG(a c:α)(L:List α):(a::(L++[c])).Perm (L++[c,a]):=by have h:=(MX a (L++[c])).symm;rwa [fx]at h
def fJ(wh:Bool):Nat->List Bool->List Int
 |_,[]=>[]| i,b::s=>bif b == wh then(i:Int)::fJ wh (i+1) s else fJ wh (i+1) s
def FM(wh b:Bool):∀ (s:List Bool) (i:Nat),fJ wh i (s++[b])=fJ wh i s++(bif b == wh then [((i+s.length:Nat):Int)]else [])
 |[],i=>by
  show(bif b == wh then((i:Nat):Int)::fJ wh (i+1) []else fJ wh (i+1) [])=_;cases b == wh<;>simp[fJ]
 |c::s,i=>by
  have:=FM wh b s (i+1);rw[oO,fJ,fJ,this];cases c == wh<;>simp[Cn,Nat.add_left_comm]
def Jj(wh:Bool):∀ (s:List Bool) (i:Nat),(fJ wh i s).length<=s.length
 |[],i=>by simp[fJ]
 |c::s,i=>by
  have:=Jj wh s (i+1);unfold fJ;cases c == wh<;>simp<;>omega
structure pV where
 a:Option Addr
 n:Nat
 c:Nat
 l:List Bool
def pV.val(r:pV):Value:=.slice r.a r.n r.c
structure pV.ok(I:aT)(r:pV):Prop where
 aJ:gb I r.a r.n r.c 1 1 (r.l.map Value.bool)
def pV.ok.n{r:pV}(h:r.ok I):r.l.length=r.n:=by have:=h.aJ.len;simpa using this
def UH{r:pV}(ag:r.ok I)(az:r.n<=1099511627776)(wh:Bool):Spec Tryz.prog 42 [r.val,.bool wh] I [] λv I' M'=>(∀ b o,I b=some o->I' b=some o)/\∃ x:il,v=x.val/\x.ok I'/\x.l=fJ wh 0 r.l/\M'=[]:=by
 refine bn [] aI Tryz.func42 rfl rfl rfl ?_;intro B av;have ji:=ag.n;refine bu.inv (ι:=Nat×aY) (λx=>{ a4:=[(1,.val (.bool wh)),(5,.val x.2.val),(8,.val r.val),(9,.val (.int .i64 r.n)),(10,.val (.int .i64 x.1))],br:=I,bO:=x.2.aw 3 }) (λx=>x.1<=r.n/\x.2.ok 1 ((fJ wh 0 (r.l.take x.1)).map (.int .i64 ·))/\∀ g,x.2.a=some g->I g=none) (λx=>r.n-x.1) ?_ ?_
 ·exact⟨(0,fs),⟨by simp,fT 1,λg h=>by cases h⟩,.refl,ec,.nil⟩
 ·rintro⟨i,os⟩⟨hi,bf,cg⟩;simp only at hi bf cg;have jP:=bf.o1;have iT:=Jj wh (r.l.take i) 0;have oZ:=rD i r.l;refine aB.mk (λh=>?_) (λh=>?_)
  ·have ax:i<r.n:=by simpa using h
   have bo:i<r.l.length:=by omega
   obtain⟨ad,ba,a3⟩:=ag.aJ.one ax bo;have eG:=FM wh r.l[i] (r.l.take i) 0;rw[<-er bo,rO (by omega),cM]at eG;refine aW.mk ad i ba rfl ax ?_;refine aE.mk _ (a3 _) ?_;refine aB.mk (λab=>?_) (λab=>?_);·rw[ab,bt]at eG;refine bL.mk λbT h3 iF=>?_;refine bk.sL aI rfl (by simp) (e:=3) rfl rfl rfl os bf rfl (m:=1) rfl (news:=[.int .i64 i]) (by decide) (dj (b:=bT) (cs:=[.int .i64 i]) (k:=0) (n:=1) (T:=3) (.head _) (by simp)) rfl (Mr:=[⟨bT,.cells #[.int .i64 i] 3 (0,0)⟩]) (gQ (l₁:=[_])) (by simp only[maxLen];omega) (by show(os.n+1)*8<=_;omega) ?_;intro dh c' fi ub c5 c7 dS eP;refine aQ.mk _ (bl (i:=i) (by omega)) ?_;refine⟨(i+1,⟨some dh,os.n+1,c',fi⟩),⟨⟨by simp only;omega,?_,λg ao=>by cases ao;exact ub⟩,by simp only;omega⟩,.sub (List.Sublist.cons_cons _ (cW _)) .refl,ec,.nil⟩;simp only;rw[eG,eL];exact xv bf c5 c7 dS eP
   ·rw[ab,bz,db]at eG;refine aQ.mk _ (bl (i:=i) (by omega)) ?_;refine⟨(i+1,os),⟨⟨by simp only;omega,?_,cg⟩,by simp only;omega⟩,.refl,ec,.nil⟩;simp only;rw[eG];exact bf
  ·have bS:r.n<=i:=by simpa using h
   rw[dX (by omega)]at bf iT jP;obtain⟨I',x,f',hC,iX,hf,AW⟩:=aY.UF (e:=3) bf (by omega) cg [];rw[db]at f';exact⟨_,_,f',hC,x,iX,hf,AW,rfl⟩
def qP(n:Nat)(s:List Bool)(k:Int):List Bool:=bif decide (0<=k)&&decide (k<n)then s.set k.toNat true else s
def og(ds:List aK)(n:Nat)(names:List ByteArray):List Bool:=names.foldl (λs nm=>qP n s (cy nm ds 0)) (List.replicate n false)
def AX(g:bP)(t:bx):List Int:=fJ true 0 (og g.ds g.n (g8 t.aa))
def UI(n:Nat)(s:List Bool)(k:Int):(qP n s k).length=s.length:=by
 unfold qP;cases decide (0<=k)&&decide (k<n)<;>simp
def Jk(ds:List aK)(n:Nat)(names:List ByteArray):(og ds n names).length=n:=by
 have:∀ (names:List ByteArray) (s:List Bool),(names.foldl (λs nm=>qP n s (cy nm ds 0)) s).length=s.length:=by
  intro names
  induction names with
  |nil=>intro s;rfl| cons nm names a8=>intro s;rw[qm,a8,UI]
 rw[og,this];simp
def UJ(ao:g.ok I)(az:g.n<=1099511627776)(aq:t.ok I):Spec Tryz.prog 64 [g.val,t.val] I [] λv I' M'=>(∀ b o,I b=some o->I' b=some o)/\∃ x:il,v=x.val/\x.ok I'/\x.l=AX g t/\M'=[]:=by
 refine bn [2,5] aI Tryz.func64 rfl rfl rfl ?_;intro B av;have cK:=ao.n;refine bL.mk λcc hc FL=>?_;refine aE.mk [.slice g.a g.n g.c] (dj (b:=cc) (cs:=[.slice g.a g.n g.c]) (k:=0) (n:=1) (T:=24) (.head _) (by simp)) ?_;refine mO.mk g.n g.n rfl rfl (b2 _) (by show 1*g.n<=_;omega) (by omega) ?_;refine bL.mk λb ah jJ=>?_;refine bL.mk λfS Jg Jh=>?_;refine cu.mk [] [⟨b,.cells (rowOf [.bool false] (g.n*1)).toArray 4 (0,0)⟩,⟨cc,.cells #[.slice g.a g.n g.c] 24 (0,0)⟩] _ _ rfl rfl (b9 rfl) rfl ?_;refine aU.mk [] [⟨fS,.cells #[.slice (some ⟨b,0,none⟩) g.n g.n] 76 (0,0)⟩,⟨b,.cells (rowOf [.bool false] (g.n*1)).toArray 4 (0,0)⟩,⟨cc,.cells #[.slice g.a g.n g.c] 24 (0,0)⟩] _ (.refl _) (ae2 t) ?_;rintro v bR M1 -⟨ae8,rfl,xt,bK,rfl⟩;have k':=ao.mono bK;have pQ:=aq.mono bK;refine cr.range aI rfl rfl rfl .refl (ae3 pQ xt) (λvs h=>?_) (λk I' M'=>(∀ b o,bR b=some o->I' b=some o)/\M'=[⟨fS,.cells #[.slice (some ⟨b,0,none⟩) g.n g.n] 76 (0,0)⟩,hQ b (og g.ds g.n ((g8 t.aa).take k)),⟨cc,.cells #[.slice g.a g.n g.c] 24 (0,0)⟩]) (λ_ _ _=>False) ⟨λ_ _ h=>h,?_⟩ ?_ ?_ (λ_ _ _ _ h=>h.elim)
 ·obtain⟨c,_,rfl⟩:=dB.1 h;rfl
 ·show _::_::_=_;rw[tJ,fh];simp[hQ,og]
 ·rintro k af I' M' -⟨m0,rfl⟩l B av j7;have MW:k<(g8 t.aa).length:=by simpa using af
  generalize ae:(g8 t.aa)[k]=x;have ai:((g8 t.aa).map λs=>[Value.string s])[k]=[.string x]:=by simp[ae]
  rw[ai];have jM:og g.ds g.n ((g8 t.aa).take (k+1))=qP g.n (og g.ds g.n ((g8 t.aa).take k)) (cy x g.ds 0):=by rw[er MW,ae];simp[og,xp]
  have hlen:=Jk g.ds g.n ((g8 t.aa).take k);generalize ar:og g.ds g.n ((g8 t.aa).take k)=s at *;rw[jM];refine aE.mk [.slice g.a g.n g.c] ⟨rfl,_,_,_,.inr ⟨_,.tail _ (.tail _ (.head _)),rfl,rfl⟩,rfl,rfl⟩ ?_;refine aU.mk [] [⟨fS,.cells #[.slice (some ⟨b,0,none⟩) g.n g.n] 76 (0,0)⟩,hQ b s,⟨cc,.cells #[.slice g.a g.n g.c] 24 (0,0)⟩] _ (.refl _) (UB (k'.mono m0) x) ?_;rintro v I' M' -⟨rfl,rfl,rfl⟩;refine a9.mk (λU=>?_) (λU=>?_)
  ·refine aE.mk [.slice (some ⟨b,0,none⟩) g.n g.n] ⟨rfl,_,_,_,.inr ⟨_,.head _,rfl,rfl⟩,rfl,rfl⟩ ?_;refine aB.mk (λab=>?_) (λab=>?_)
   ·have gT:0<=cy x g.ds 0:=by simpa using U
    have eR:cy x g.ds 0<g.n:=by simpa using ab
    have xw:qP g.n s (cy x g.ds 0)=s.set (cy x g.ds 0).toNat true:=by rw[qP,U,ab];rfl
    refine aE.mk [.slice (some ⟨b,0,none⟩) g.n g.n] ⟨rfl,_,_,_,.inr ⟨_,.head _,rfl,rfl⟩,rfl,rfl⟩ ?_;refine aW.mk ⟨b,0,none⟩ (cy x g.ds 0).toNat rfl (by omega) (by omega) ?_;refine cu.add [⟨fS,.cells #[.slice (some ⟨b,0,none⟩) g.n g.n] 76 (0,0)⟩] [⟨cc,.cells #[.slice g.a g.n g.c] 24 (0,0)⟩] _ _ rfl ?_ rfl ?_;·simp only[jZ,cT];show 0+(cy x g.ds 0).toNat*1+1<=_;omega
    refine⟨_,_,.refl,m0,?_⟩;rw[xw];have e:=AB s (cy x g.ds 0).toNat (by omega) true;simp only[hQ];rw[<-e];simp only[cM,fh];rfl
   ·refine⟨_,_,.refl,m0,?_⟩;have:qP g.n s (cy x g.ds 0)=s:=by rw[qP,U,ab];rfl
    rw[this];rfl
  ·refine⟨_,_,.refl,m0,?_⟩;have:qP g.n s (cy x g.ds 0)=s:=by rw[qP,U];rfl
   rw[this];rfl
 ·rintro dG ew -⟨ed,rfl⟩;have Ji:∀ b o,I b=some o->dG b=some o:=λb o h=>ed _ _ (bK _ _ h);have ae9:(g8 t.aa).take ((g8 t.aa).map λs=>[Value.string s]).length=g8 t.aa:=dX (by simp);rw[ae9];have fY:=Jk g.ds g.n (g8 t.aa);have cv:AX g t=fJ true 0 (og g.ds g.n (g8 t.aa)):=rfl;generalize ar:og g.ds g.n (g8 t.aa)=s at *;refine aE.mk [.slice (some ⟨b,0,none⟩) g.n g.n] ⟨rfl,_,_,_,.inr ⟨_,.head _,rfl,rfl⟩,rfl,rfl⟩ ?_;refine bu.inv (ι:=Nat×aY) (λx=>{ a4:=[(8,.val x.2.val),(32,.val (.slice (some ⟨b,0,none⟩) g.n g.n)),(33,.val (.int .i64 g.n)),(34,.val (.int .i64 x.1))],br:=dG,bO:=x.2.aw 3++[hQ b s] }) (λx=>x.1<=g.n/\x.2.ok 1 ((fJ true 0 (s.take x.1)).map (.int .i64 ·))/\∀ g,x.2.a=some g->dG g=none) (λx=>g.n-x.1) ?_ ?_
  ·exact⟨(0,fs),⟨by simp,fT 1,λg h=>by cases h⟩,.sub (.cons _ (.cons_cons _ (cW _))) .refl,cI,.nil⟩
  ·rintro⟨i,os⟩⟨hi,bf,cg⟩;simp only at hi bf cg;have jP:=bf.o1;have iT:=Jj true (s.take i) 0;have oZ:=rD i s;refine aB.mk (λh=>?_) (λh=>?_)
   ·have ax:i<g.n:=by simpa using h
    have bo:i<s.length:=by omega
    have eG:=FM true s[i] (s.take i) 0;rw[<-er bo,rO (by omega),cM]at eG;refine aW.mk ⟨b,0,none⟩ i rfl rfl ax ?_;refine aE.mk _ (AA (by simp) bo) ?_;refine aB.mk (λab=>?_) (λab=>?_);·rw[ab]at eG;refine bL.mk λbT h3 iF=>?_;refine bk.sL aI rfl (by simp) (e:=3) rfl rfl rfl os bf rfl (m:=1) rfl (news:=[.int .i64 i]) (by decide) (dj (b:=bT) (cs:=[.int .i64 i]) (k:=0) (n:=1) (T:=3) (.head _) (by simp)) rfl (Mr:=[hQ b s,⟨bT,.cells #[.int .i64 i] 3 (0,0)⟩]) (UG _ _ _) (by simp only[maxLen];omega) (by show(os.n+1)*8<=_;omega) ?_;intro dh c' fi ub c5 c7 dS eP;refine aQ.mk _ (bl (i:=i) (by omega)) ?_;refine⟨(i+1,⟨some dh,os.n+1,c',fi⟩),⟨⟨by simp only;omega,?_,λg ao=>by cases ao;exact ub⟩,by simp only;omega⟩,.sub (.cons_cons _ (.cons_cons _ (cW _))) .refl,cI,.nil⟩;simp only;rw[eG,eL];exact xv bf c5 c7 dS eP
    ·rw[ab]at eG;simp only[Bool.false_beq,nS,bz,db]at eG;refine aQ.mk _ (bl (i:=i) (by omega)) ?_;refine⟨(i+1,os),⟨⟨by simp only;omega,?_,cg⟩,by simp only;omega⟩,.refl,cI,.nil⟩;simp only;rw[eG];exact bf
   ·have bS:g.n<=i:=by simpa using h
    rw[dX (by omega)]at bf iT jP;obtain⟨I',x,f',hC,iX,hf,AW⟩:=aY.UF (e:=3) bf (by omega) cg [];rw[db]at f';exact⟨_,_,.sub (CQ _ _) f',λb o h=>hC _ _ (Ji _ _ h),x,iX,hf,AW.trans cv.symm,rfl⟩
def jQ(m:List Bool)(k:Nat):Prop:=m.getD k false=true
def iG(m:List Bool)(o:List Int):List Int->List Bool×List Int
 |[]=>(m,o)| k::ks=>bif m.getD k.toNat false then iG m o ks else iG (m.set k.toNat true) (o++[k]) ks
def xx(L:List (List Int)):Nat->List Bool->List Int->List Bool
 |0,m,_=>m
 |f+1,m,o=>match o.getLast? with
  |none=>m| some w=>bif decide (0<(iG m o.dropLast (L.getD w.toNat [])).2.length)then xx L f (iG m o.dropLast (L.getD w.toNat [])).1 (iG m o.dropLast (L.getD w.toNat [])).2 else(iG m o.dropLast (L.getD w.toNat [])).1
def hq(L:List (List Int))(i:Nat):List Bool:=xx L (2*L.length+2) ((List.replicate L.length false).set i true) [(i:Int)]
def pW:List Bool->Nat
 |[]=>0| b::s=>(bif b then 0 else 1)+pW s
def Np:∀ (m:List Bool) (k:Nat),k<m.length->m.getD k false=false->pW (m.set k true)+1=pW m
 |b::m,0,_,h=>by
  have:b=false:=by simpa using h
  subst this;simp[pW];omega
 |b::m,k+1,af,h=>by have:=Np m k (by simpa using af) (by simpa using h);simp only[List.set_cons_succ,pW];omega
def UK(m:List Bool):pW m<=m.length:=by
 induction m with
 |nil=>simp[pW]
 |cons b m a8=>
  simp only[pW,cS];cases b<;>simp<;>omega
def Jl{a:Nat}(af:k<m.length):jQ (m.set k true) a ↔ a=k\/jQ m a:=by
 unfold jQ;simp only[bV,iz];by_cases e:k=a
 ·subst e;simp[af]
 ·rw[cB e];constructor
  ·exact .inr
  ·rintro(h | h)
   ·exact(e h.symm).elim
   ·exact h
def valid(n:Nat)(l:List Int):Prop:=∀ k∈l,0<=k/\k<n
structure afa(m:List Bool)(o ks:List Int)(r:List Bool×List Int):Prop where
 len:r.1.length=m.length
 mono:∀ a,jQ m a->jQ r.1 a
 all:∀ k∈ks,jQ r.1 k.toNat
 only:∀ a,jQ r.1 a->jQ m a\/((a:Int)∈ks/\(a:Int)∈r.2)
 mU:∀ k∈o,k∈r.2
 news:∀ k∈r.2,k∈o\/(k∈ks/\jQ r.1 k.toNat)
 FC:2*pW r.1+r.2.length<=2*pW m+o.length
def Nq{n:Nat}:∀ (ks:List Int) (m:List Bool) (o:List Int),m.length=n->valid n ks->afa m o ks (iG m o ks)
 |[],m,o,_,_=>⟨rfl,λ_ h=>h,λk af=>by simp at af,λa h=>.inl h,λk h=>h,λk h=>.inl h,b2 _⟩
 |k::ks,m,o,hm,ai=>by
  have af:=ai k (by simp);have j4:valid n ks:=λx ae=>ai x (by simp[ae]);have bj:k.toNat<m.length:=by omega
  unfold iG;cases ah:m.getD k.toNat false with
  |true=>
   have h:=Nq ks m o hm j4;simp only[bt];refine⟨h.len,h.mono,λx ae=>?_,λa aX=>?_,h.mU,λx ae=>?_,h.FC⟩
   ·rcases ea.1 ae with rfl | ae
    ·exact h.mono _ ah
    ·exact h.all x ae
   ·rcases h.only a aX with U | U
    ·exact .inl U
    ·exact .inr ⟨by simp[U.1],U.2⟩
   ·rcases h.news x ae with U | U
    ·exact .inl U
    ·exact .inr ⟨by simp[U.1],U.2⟩
  |false=>
   have h:=Nq ks (m.set k.toNat true) (o++[k]) (by simpa using hm) j4;have ar:=Np m k.toNat bj ah;have xw:jQ (iG (m.set k.toNat true) (o++[k]) ks).1 k.toNat:=h.mono _ ((Jl bj).2 (.inl rfl));have kq:k∈(iG (m.set k.toNat true) (o++[k]) ks).2:=h.mU k (by simp);simp only[bz];refine⟨by rw[h.len];simp,λa aX=>h.mono a ((Jl bj).2 (.inr aX)),λx ae=>?_,λa aX=>?_,λx ae=>h.mU x (by simp[ae]),λx ae=>?_,?_⟩
   ·rcases ea.1 ae with rfl | ae
    ·exact xw
    ·exact h.all x ae
   ·rcases h.only a aX with U | U
    ·rcases(Jl bj).1 U with rfl | U
     ·have e:((k.toNat:Nat):Int)=k:=by omega
      rw[e];exact .inr ⟨by simp,kq⟩
     ·exact .inl U
    ·exact .inr ⟨by simp[U.1],U.2⟩
   ·rcases h.news x ae with U | U
    ·simp only[dm,fb]at U;rcases U with U | rfl
     ·exact .inl U
     ·exact .inr ⟨by simp,xw⟩
    ·exact .inr ⟨by simp[U.1],U.2⟩
   ·have:=h.FC;simp only[cz,cS,dI]at this;omega
inductive Comes(L:List (List Int))(i:Nat):Nat->Prop
 |self:Comes L i i| next {a k:Nat} (h:Comes L i a) (af:(k:Int)∈L.getD a []):Comes L i k
structure vF(L:List (List Int))(i:Nat)(m:List Bool)(o:List Int):Prop where
 len:m.length=L.length
 val:valid L.length o
 UL:∀ k∈o,jQ m k.toNat
 cl:∀ a,jQ m a->(a:Int)∈o\/∀ k∈L.getD a [],jQ m k.toNat
 AY:∀ a,jQ m a->Comes L i a
 self:jQ m i
def afb{a:Nat}(h:jQ m a):a<m.length:=by apply IH;intro hle;unfold jQ at h;simp[bV,hle]at h
def vF.step(cL:∀ l∈L,valid L.length l){o:List Int}{w:Int}(h:vF L i m (o++[w])) :
  vF L i (iG m o (L.getD w.toNat [])).1 (iG m o (L.getD w.toNat [])).2/\2*pW (iG m o (L.getD w.toNat [])).1+(iG m o (L.getD w.toNat [])).2.length<2*pW m+(o++[w]).length:=by
 have hw:=h.val w (by simp);have lR:w.toNat<L.length:=by omega
 have Jm:L.getD w.toNat []=L[w.toNat]:=by simp[bV,lR]
 have ai:valid L.length (L.getD w.toNat []):=by rw[Jm];exact cL _ (bJ lR)
 have v:=Nq (L.getD w.toNat []) m o h.len ai;have Fo:=h.UL w (by simp);have afc:=h.AY _ Fo;refine⟨⟨v.len.trans h.len,λk af=>?_,λk af=>?_,λa aX=>?_,λa aX=>?_,v.mono _ h.self⟩,?_⟩
 ·rcases v.news k af with U | U
  ·exact h.val k (by simp[U])
  ·exact ai k U.1
 ·rcases v.news k af with U | U
  ·exact v.mono _ (h.UL k (by simp[U]))
  ·exact U.2
 ·rcases v.only a aX with U | U
  ·rcases h.cl a U with ab | ab
   ·simp only[dm,fb]at ab;rcases ab with ab | ab
    ·exact .inl (v.mU _ ab)
    ·have e:a=w.toNat:=by omega
     subst e;exact .inr v.all
   ·exact .inr λk af=>v.mono _ (ab k af)
  ·exact .inl U.2
 ·rcases v.only a aX with U | U
  ·exact h.AY a U
  ·exact .next afc U.1
 ·have:=v.FC;simp only[cz,cS,dI];omega
structure Nr(L:List (List Int))(i:Nat)(m:List Bool):Prop where
 len:m.length=L.length
 iff:∀ a,jQ m a ↔ Comes L i a
def vF.done(cL:∀ l∈L,valid L.length l)(h:vF L i m []):Nr L i m:=by
 refine⟨h.len,λa=>⟨h.AY a,λaC=>?_⟩⟩
 induction aC with
 |self=>exact h.self
 |next aC af a8=>
  rcases h.cl _ a8 with U | U;·simp at U
  ·simpa using U _ af
def vF.start(hi:i<L.length):vF L i ((List.replicate L.length false).set i true) [(i:Int)]:=by
 have az:∀ a,¬ jQ (List.replicate L.length false) a:=λa=>by
  unfold jQ;by_cases h:a<L.length<;>simp[bV,h]
 have ar:∀ a,jQ ((List.replicate L.length false).set i true) a ↔ a=i:=λa=>by rw[Jl (by simpa using hi)];exact⟨λh=>h.resolve_right (az a),.inl⟩
 refine⟨by simp,λk af=>?_,λk af=>?_,λa aX=>?_,λa aX=>?_,(ar i).2 rfl⟩
 ·simp only[fb]at af;omega
 ·simp only[fb]at af;subst af;simpa using(ar i).2 rfl
 ·rw[(ar a).1 aX];exact .inl (by simp)
 ·rw[(ar a).1 aX];exact .self
def UM{L:List (List Int)}(cL:∀ l∈L,valid L.length l){i:Nat}:∀ (f:Nat) (m:List Bool) (o:List Int),vF L i m o->o≠[]->2*pW m+o.length<=f->Nr L i (xx L f m o)
 |0,m,o,h,aP,au=>by exact(aP (hZ (by omega))).elim
 |f+1,m,o,h,aP,au=>by
  obtain⟨o',w,rfl⟩:∃ o' w,o=o'++[w]:=by
   rcases xb o with U | ⟨r,p,U⟩;·exact(aP U).elim
   ·exact⟨r,p,by simpa using U⟩
  obtain⟨U,ab⟩:=h.step cL;unfold xx;simp only[I0,I1];cases ah:decide (0<(iG m o' (L.getD w.toNat [])).2.length)with
  |true=>simp only[bt];refine UM cL f _ _ U (λe=>?_) (by omega);rw[e]at ah;simp at ah| false=>simp only[bz];have e:(iG m o' (L.getD w.toNat [])).2=[]:=hZ (by simpa using ah);rw[e]at U;exact U.done cL
def Ns(cL:∀ l∈L,valid L.length l)(hi:i<L.length):Nr L i (hq L i):=by refine UM cL _ _ _ (.start hi) (by simp) ?_;have:=UK ((List.replicate L.length false).set i true);simp only[m1,yz,cS,dI]at this |-;omega
def UN{pre post:List Value}{z:Value}(af:k=pre.length):bG (pre++z::post) k [v]=pre++v::post:=by
 subst af;unfold bG;have e:(pre++z::post).drop (pre.length+[v].length)=post:=by rw[show pre++z::post=(pre++[z])++post from by simp];exact CF (by simp)
 rw[e,pJ rfl];simp
def ei(g:bP):List (List Int):=g.ds.map λd=>AX g d.t
def UO(bA:fr I deb)(ao:g.ok I)(az:g.n<=1099511627776):Spec Tryz.prog 41 [g.val] I [] λv I' M'=>(∀ b o,I b=some o->I' b=some o)/\M'=[] /\
  ((cn deb g≠0/\v=.tuple #[.slice none 0 0,.bool false])\/(cn deb g=0/\∃ x:m5,v=.tuple #[x.val,.bool true]/\x.ok I'/\x.h4=ei g)):=by
 refine bn [] aI Tryz.func41 rfl rfl rfl ?_;intro B av;have cK:=ao.n;refine aU.mk [] [] _ (.refl _) (Jf bA ao) ?_;rintro v bR M1 -⟨rfl,bK,rfl⟩;refine aB.mk (λh=>?_) (λh=>?_)
 ·exact⟨_,_,.refl,bK,rfl,.inl ⟨by simpa using h,rfl⟩⟩
 ·have afd:cn deb g=0:=by simpa using h
  refine mO.mk g.n g.n rfl rfl (b2 _) (by show 24*g.n<=_;omega) (by omega) ?_;refine bL.mk λb ah jJ=>?_;refine bu.inv (ι:=Nat×List il×aT) (λx=>{ a4:=[(1,.ref 1 0),(4,.val (.slice (some ⟨b,0,none⟩) g.n g.n)),(15,.val (.slice g.a g.n g.c)),(16,.val (.int .i64 g.n)),(17,.val (.int .i64 x.1))],cl:=[(1,[.slice g.a g.n g.c])],br:=x.2.2,bO:=[⟨b,.cells (x.2.1.map il.val++List.replicate (g.n-x.1) (Value.slice none 0 0)).toArray 25 (0,0)⟩] }) (λx=>x.1<=g.n/\x.2.1.length=x.1/\(∀ b o,I b=some o->x.2.2 b=some o)/\x.2.2 b=none/\(∀ r∈x.2.1,r.ok x.2.2)/\x.2.1.map (·.l)=(g.ds.take x.1).map (λd=>AX g d.t)) (λx=>g.n-x.1) ?_ ?_;·refine⟨(0,[],bR),⟨by simp,rfl,bK,ah,by simp,rfl⟩,?_,ec,.cons rfl .nil⟩;show hk _ _ [⟨b,.cells (rowOf [.slice none 0 0] (g.n*1)).toArray 25 (0,0)⟩] _ _;rw[tJ,fh];exact .refl
  ·rintro⟨i,aJ,dG⟩⟨hi,dp,ed,hc,iw,ig⟩;simp only at hi dp ed hc iw ig;refine aB.mk (λh=>?_) (λh=>?_)
   ·have ax:i<g.n:=by simpa using h
    have bo:i<g.ds.length:=by omega
    have lM:=ao.mono ed;obtain⟨ad,ba,a3⟩:=lM.aJ.row aK.bI ax bo;have cN:g.ds[i]∈g.ds:=bJ bo;refine aW.mk ad i ba rfl ax ?_;refine aE.mk _ (a3 _) ?_;refine aU.Ia [] [⟨b,.cells (aJ.map il.val++List.replicate (g.n-i) (Value.slice none 0 0)).toArray 25 (0,0)⟩] _ (.refl _) (UJ lM az (lM.ds _ cN).t) ?_;rintro v gJ qE-AZ⟨iC,x,rfl,ae,e8,rfl⟩;refine aW.mk ⟨b,0,none⟩ i rfl rfl ax ?_;refine cu.add [] [] _ _ rfl ?_ rfl ?_;·simp only[jZ,cz,cT,yz];show 0+i*1+1<=_;omega
    refine aQ.mk _ (bl (i:=i) (by omega)) ?_;refine⟨(i+1,aJ++[x],gJ),⟨⟨by simp only;omega,by simp[dp],λb o h=>iC _ _ (ed _ _ h),AZ _ (.head _),λr ag=>?_,?_⟩,by simp only;omega⟩,?_,ec,.cons rfl .nil⟩
    ·simp only[dm,fb]at ag;rcases ag with ag | rfl
     ·exact(iw r ag).mono iC
     ·exact ae
    ·simp only;rw[eL,ig,er bo,eL];simp[e8]
    ·have yY:List.replicate (g.n-i) (Value.slice none 0 0)=.slice none 0 0::List.replicate (g.n-(i+1)) (Value.slice none 0 0):=by rw[show g.n-i=(g.n-(i+1))+1 from by omega,AO]
     have e:=UN (pre:=aJ.map il.val) (post:=List.replicate (g.n-(i+1)) (Value.slice none 0 0)) (z:=.slice none 0 0) (v:=x.val) (k:=0+i*1) (by simp[dp]);rw[yY];simp only[eL,cZ,jj,fx,oO,hO];rw[<-e];exact .refl
   ·have bS:g.n<=i:=by simpa using h
    have c1:i=g.n:=by omega
    subst c1;refine⟨_,_,.pt rfl (by simp) .refl,λb o h=>nx hc _ _ (ed _ _ h),rfl,.inr ⟨afd,⟨aJ,some ⟨b,0,none⟩,g.n,g.n⟩,rfl,⟨⟨by simp[dp],⟨b2 _,by simp only;omega⟩,.inr ⟨_,rfl,rfl,_,_,_,tP ..,?_⟩⟩,λr ag=>(iw r ag).mono (nx hc)⟩,?_⟩⟩;·simp[dp];exact dX (by simp[dp])
    ·simp only[m5.h4,ig,ei];rw[dX (by omega)]
def UP{K:j6}{a b d:de}(h:∀ G oc,V X c (fA (fA (fA G t3 d) t2 b) t1 a) oc I M K)
  (U:F t1=a) (ab:F t2=b) (ak:F t3=d):V X c F C I M K:=by
 have:=h F C;rwa [C0 ak,C0 ab,C0 U]at this
abbrev Jn:=Nat×List Bool×aY×List Int×Nat
def UQ(I:aT)(x:m5)(y:Jn):tC:={ a4:=[(0,.val x.val),(5,.val (.slice (some ⟨y.1,0,none⟩) x.n x.n)),(6,.val y.2.2.1.val)],br:=I,bO:=y.2.2.1.aw 3++[hQ y.1 y.2.1] }
structure Jo(I:aT)(L:List (List Int))(i:Nat)(y:Jn):Prop where
 aw:I y.1=none
 os:y.2.2.1.ok 1 (y.2.2.2.1.map (.int .i64 ·))
 inv:vF L i y.2.1 y.2.2.2.1
 ne:y.2.2.2.1≠[]
 FC:2*pW y.2.1+y.2.2.2.1.length<=y.2.2.2.2
 h5:y.2.2.2.2<=2*L.length+2
 eq:hq L i=xx L y.2.2.2.2 y.2.1 y.2.2.2.1
def afe(L:List (List Int))(f:Nat)(m:List Bool)(o:List Int)(w:Int):xx L (f+1) m (o++[w]) =
  bif decide (0<(iG m o (L.getD w.toNat [])).2.length)then xx L f (iG m o (L.getD w.toNat [])).1 (iG m o (L.getD w.toNat [])).2 else(iG m o (L.getD w.toNat [])).1:=by
 rw[xx];simp only[I0,I1]
def UR{x:m5}(ae:x.ok I)(az:x.n<=1099511627776)(cL:∀ l∈x.h4,valid x.h4.length l)(y:Jn)(aA:Jo I x.h4 i y){p:Nat->Jn->Prop}(aN:∀ z,Jo I x.h4 i z->z.2.2.2.2<y.2.2.2.2->p 0 z)(B:Nat)(av:World)(G:Fr)(oc:c8) :
  V ⟨Tryz.prog,lH,[],Tryz.f43.ntmps,B,av,I,[],none⟩ (I7 (C1 (Tryz.f43.body.getD .skip)) 0) (fA (fA (fA G 6 (.val y.2.2.1.val)) 5 (.val (.slice (some ⟨y.1,0,none⟩) x.n x.n))) 0 (.val x.val)) oc I (y.2.2.1.aw 3++[hQ y.1 y.2.1])
   (IJ (λl=>n1 [] (UQ I x) (p l)) (tD ⟨Tryz.prog,lH,[],Tryz.f43.ntmps,B,av,I,[],none⟩ Tryz.f43.results.toList
    (λv I' M'=>(∀ b o,I b=some o->I' b=some o)/\∃ r:pV,v=r.val/\r.ok I'/\r.l=hq x.h4 i/\M'=[]))):=by
 obtain⟨b,m,⟨hp,n,eK,cur⟩,o,f⟩:=y;obtain⟨ah,bf,hinv,bB,sU,aff,pN⟩:=aA;simp only at ah bf hinv bB sU aff pN aN |-;have fU:=ae.n;have iT:x.h4.length=x.n:=by simp[m5.h4,fU]
 have gz:m.length=x.n:=hinv.len.trans iT;obtain⟨o',w,rfl⟩:∃ o' w,o=o'++[w]:=by
  rcases xb o with U | ⟨r,p,U⟩;·exact(bB U).elim
  ·exact⟨r,p,by simpa using U⟩
 have jP:n=o'.length+1:=by have:=bf.o1;simpa using this
 cases hp with
 |none=>have:=(bf.nil rfl).1;simp only at this;omega| some cD=>
 obtain⟨cv,ml,kJ,dJ⟩:=bf.cap cD rfl;simp only at cv ml kJ dJ;have hw:=hinv.val w (by simp);have lR:w.toNat<x.h4.length:=by omega
 have eT:w.toNat<x.rows.length:=by omega
 have Jp:w.toNat<x.n:=by omega
 obtain⟨dc,ax⟩:=hinv.step cL;have Jm:x.h4.getD w.toNat []=x.rows[w.toNat].l:=by simp[m5.h4,bV,eT]
 rw[Jm]at dc ax;obtain⟨f,rfl⟩:∃ pO,f=pO+1:=⟨f-1,by simp at sU;omega⟩;have dK:hq x.h4 i=bif decide (0<(iG m o' x.rows[w.toNat].l).2.length)then xx x.h4 f (iG m o' x.rows[w.toNat].l).1 (iG m o' x.rows[w.toNat].l).2 else(iG m o' x.rows[w.toNat].l).1:=by rw[pN,afe,Jm]
 have yR:valid x.h4.length x.rows[w.toNat].l:=cL _ (by simp only[m5.h4];exact dB.2 ⟨_,bJ eT,rfl⟩);have lS:=ae.rows _ (bJ eT);have ji:=lS.n;have xy:=lS.aJ.cap;obtain⟨afg,afh,lD⟩:=ae.aJ.one Jp eT;have jk:IntKind.i64.wrap ((n:Int)-1)=((n-1:Nat):Int):=by simp only[cz,cS,dI]at sU;rw[wrap_i64 ⟨by omega,by omega⟩];omega
 obtain⟨rest,lN⟩:∃ rest,cur=o'.map (Value.int .i64)++(.int .i64 w::rest):=by refine⟨cur.drop n,?_⟩;have ab:=rB (n*1) cur;rw[dJ,fh]at ab;rw[eL,fx]at ab;exact ab.symm
 have Nt:cur.drop (n-1)=.int .i64 w::rest:=by rw[lN];exact CF (by simp;omega)
 refine aQ.mk _ jk ?_;refine aW.mk ⟨cD,0,none⟩ (n-1) rfl rfl (by show n-1<n;omega) ?_;refine aE.mk [.int .i64 w] ?_ ?_
 ·have:=dj (I:=I) (M:=[⟨cD,.cells cur.toArray 3 (0,0)⟩]++[hQ b m]) (b:=cD) (cs:=cur) (T:=3) (.head _) (k:=(n-1)*1) (n:=1) (by omega);rw[fh,Nt]at this;rw[fh];exact this
 refine aQ.mk _ jk ?_;refine jv.mk 0 (n-1) rfl rfl (bQ _) (by show n-1<=eK;omega) ?_;refine aW.mk afg w.toNat afh (by omega) Jp ?_;refine aE.mk _ (lD _) ?_;generalize hT:x.rows[w.toNat]=row at *;have pX:aY.ok ⟨some cD,n-1,eK,cur⟩ 1 (o'.map (.int .i64 ·)):=by refine⟨by simp;omega,(λh=>by cases h),λb0 ak=>⟨cv,by show n-1<=eK;omega,kJ,?_⟩⟩;show cur.take ((n-1)*1)=_;have ab:=rB (n*1) cur;rw[dJ,fh]at ab;rw[<-ab,eL,fx,fh];exact pJ (by simp;omega)
 simp only[cz,cS,dI]at ax sU;refine bu.inv (ι:=Nat×List Bool×aY×List Int) (λz=>{ a4:=[(0,.val x.val),(5,.val (.slice (some ⟨b,0,none⟩) x.n x.n)),(6,.val z.2.2.1.val),(32,.val row.val),(33,.val (.int .i64 row.n)),(34,.val (.int .i64 z.1))],br:=I,bO:=z.2.2.1.aw 3++[hQ b z.2.1] }) (λz=>z.1<=row.n/\z.2.1.length=x.n/\z.2.2.1.ok 1 (z.2.2.2.map (.int .i64 ·))/\2*pW z.2.1+z.2.2.2.length<=2*x.n+2/\iG m o' row.l=iG z.2.1 z.2.2.2 (row.l.drop z.1)) (λz=>row.n-z.1) ?_ ?_
 ·exact⟨(0,m,⟨some cD,n-1,eK,cur⟩,o'),⟨by simp,gz,pX,by simp only;omega,rfl⟩,.refl,jD,.nil⟩
 ·rintro⟨j,s,os,q⟩⟨aj,fY,kr,US,Ao⟩;simp only at aj fY kr US Ao;refine aB.mk (λh=>?_) (λh=>?_)
  ·have eS:j<row.n:=by simpa using h
   have hR:j<row.l.length:=by omega
   obtain⟨eU,eO,eB⟩:=lS.aJ.one eS hR;have nv:row.l.drop j=row.l[j]::row.l.drop (j+1):=dv hR;have fC:=yR _ (bJ hR);generalize af:row.l[j]=k at *;have bj:k.toNat<s.length:=by omega
   have afi:=kr.o1;refine aW.mk eU j eO rfl eS ?_;refine aE.mk _ (eB _) ?_;refine aW.mk ⟨b,0,none⟩ k.toNat rfl (by omega) (by omega) ?_;refine aE.mk _ (AA (by simp) bj) ?_;have Aw:s.getD k.toNat false=s[k.toNat]:=by simp[bV,bj]
   refine aB.mk (λab=>?_) (λab=>?_)
   ·have au:s.getD k.toNat false=false:=by rw[Aw];simpa using ab
    have sD:=Np s k.toNat bj au;refine aW.mk ⟨b,0,none⟩ k.toNat rfl (by omega) (by omega) ?_;refine cu.add (os.aw 3) [] _ _ rfl ?_ rfl ?_;·simp only[jZ,cT];show 0+k.toNat*1+1<=_;omega
    have e:=AB s k.toNat bj true;refine bL.mk λbT h3 iF=>?_;refine bk.append aI rfl (by simp) (e:=3) rfl rfl rfl os kr rfl (m:=1) rfl (news:=[.int .i64 k]) (by decide) (dj (b:=bT) (cs:=[.int .i64 k]) (k:=0) (n:=1) (T:=3) (.head _) (by simp)) rfl (Mr:=[⟨b,.cells (bG (s.map Value.bool) (0+k.toNat*1) [.bool true]).toArray 4 (0,0)⟩,⟨bT,.cells #[.int .i64 k] 3 (0,0)⟩]) (UG _ _ _) (by simp only[maxLen];omega) (by show(os.n+1)*8<=_;omega) ?_;intro dh c' fi c5 c7 dS eP;refine aQ.mk _ (bl (i:=j) (by omega)) ?_;refine⟨(j+1,s.set k.toNat true,⟨some dh,os.n+1,c',fi⟩,q++[k]),⟨⟨by simp only;omega,by simpa using fY,?_,?_,?_⟩,by simp only;omega⟩,?_,jD,.nil⟩;·simp only;rw[eL];exact xv kr c5 c7 dS eP
    ·simp only[cz,cS,dI];omega
    ·simp only;rw[Ao,nv,iG,au];rfl
    ·simp only[hQ];rw[<-e];simp only[cM,fh];exact .sub (.cons_cons _ (.cons_cons _ (cW _))) .refl
   ·have au:s.getD k.toNat false=true:=by rw[Aw];simpa using ab
    refine aQ.mk _ (bl (i:=j) (by omega)) ?_;refine⟨(j+1,s,os,q),⟨⟨by simp only;omega,fY,kr,US,?_⟩,by simp only;omega⟩,.refl,jD,.nil⟩;simp only;rw[Ao,nv,iG,au];rfl
  ·have bS:row.n<=j:=by simpa using h
   have ai:iG m o' row.l=(s,q):=by rw[Ao,iW (by omega)];rfl
   rw[ai]at dK dc ax;simp only at dK dc ax;have afi:=kr.o1;refine aB.mk (λab=>?_) (λab=>?_)
   ·have ee:0<q.length:=by simp at ab;omega
    refine⟨(b,s,os,q,f),aN _ ⟨ah,kr,dc,λe=>by simp only at e;rw[e]at ee;simp at ee,by simp only;omega,by simp only;omega,?_⟩ (by simp only;omega),.refl,cU,.nil⟩;simp only;rw[dK,show decide (0<q.length)=true from eD ee];rfl
   ·have ee:¬ 0<q.length:=by simp at ab;omega
    have im:hq x.h4 i=s:=by rw[dK,show decide (0<q.length)=false from dk ee];rfl
    refine⟨_,_,.sub (e' _ _) (.pt rfl (by simp) .refl),nx ah,⟨some ⟨b,0,none⟩,x.n,x.n,s⟩,rfl,⟨⟨by simp[fY],⟨b2 _,by simp only;omega⟩,.inr ⟨_,rfl,rfl,_,_,_,tP ..,?_⟩⟩⟩,im.symm,rfl⟩;simp[fY];exact dX (by simp[fY])
def UT{x:m5}(ae:x.ok I)(az:x.n<=1099511627776)(cL:∀ l∈x.h4,valid x.h4.length l)(hi:i<x.n):Spec Tryz.prog 43 [x.val,.int .i64 i] I [] λv I' M'=>(∀ b o,I b=some o->I' b=some o)/\∃ r:pV,v=r.val/\r.ok I'/\r.l=hq x.h4 i/\M'=[]:=by
 refine bn [] aI Tryz.func43 rfl rfl rfl ?_;intro B av;have fU:=ae.n;have iT:x.h4.length=x.n:=by simp[m5.h4,fU]
 refine cr.scope aI rfl (UQ I x) (λ_=>0) (Jo I x.h4 i) (λy=>y.2.2.2.2) (λ_=>I7 (C1 (Tryz.f43.body.getD .skip)) 0) (λ_ _=>⟨by kernel_rfl,by kernel_rfl⟩) ?_ ?_
 ·refine mO.mk x.n x.n rfl rfl (b2 _) (by show 1*x.n<=_;omega) (by omega) ?_;refine bL.mk λb ah jJ=>?_;refine aW.mk ⟨b,0,none⟩ i rfl rfl hi ?_;have ag:rowOf [.bool false] (x.n*1)=(List.replicate x.n false).map Value.bool:=by rw[tJ,fh,yB]
  refine cu.add [] [] (((List.replicate x.n false).map Value.bool).toArray) 4 (by rw[<-ag];rfl) ?_ rfl ?_;·simp only[jZ,cT,yz];show 0+i*1+1<=_;omega
  refine bL.mk λb6 FE Nj=>?_;have e:=AB (List.replicate x.n false) i (by simpa using hi) true;have dc:=vF.start (L:=x.h4) (i:=i) (by omega);rw[iT]at dc;have key:=λG oc=>UR ae az cL (i:=i) (b,(List.replicate x.n false).set i true,⟨some b6,1,1,[.int .i64 i]⟩,[(i:Int)],2*x.n+2) ⟨ah,⟨rfl,(λh=>by cases h),λb0 _=>⟨rfl,b2 _,by simp only[maxLen];omega,rfl⟩⟩,dc,by simp,?_,by simp only;omega,by simp only[hq];rw[iT]⟩ (p:=λl y=>Jo I x.h4 i y/\0=l) (λz a2 _=>⟨a2,rfl⟩) B av G oc;·refine UP (t1:=0) (t2:=5) (t3:=6) (λG oc=>?_) rfl rfl rfl;have bZ:=key G oc;simp only[hQ]at bZ;rw[<-e]at bZ;simp only[cM,fh];exact bZ
  ·simp only;have:=UK ((List.replicate x.n false).set i true);simp only[m1,yz,cS,dI]at this |-;omega
 ·intro y aA;exact UP (t1:=0) (t2:=5) (t3:=6) (λG oc=>UR ae az cL y aA (λz a2 ax=>⟨⟨a2,rfl⟩,ax⟩) B av G oc) rfl rfl rfl
def C4(wh:Bool):∀ (s:List Bool) (i:Nat) (k:Int),k∈fJ wh i s ↔ ∃ j:Nat,k=((i+j:Nat):Int)/\s[j]?=some wh
 |[],i,k=>by simp[fJ]
 |b::s,i,k=>by
  have a8:=C4 wh s (i+1) k;unfold fJ;have tail:(∃ j:Nat,k=((i+1+j:Nat):Int)/\s[j]?=some wh) ↔ ∃ j:Nat,k=((i+(j+1):Nat):Int)/\(b::s)[j+1]?=some wh:=by
   constructor;·rintro⟨j,U,ab⟩;exact⟨j,by rw[U];omega,by simpa using ab⟩
   ·rintro⟨j,U,ab⟩;exact⟨j,by rw[U];omega,by simpa using ab⟩
  have split:(∃ j:Nat,k=((i+j:Nat):Int)/\(b::s)[j]?=some wh) ↔ (k=(i:Int)/\b=wh)\/∃ j:Nat,k=((i+(j+1):Nat):Int)/\(b::s)[j+1]?=some wh:=by
   constructor
   ·rintro⟨j,U,ab⟩;cases j with
    |zero=>exact .inl ⟨by simpa using U,by simpa using ab⟩| succ j=>exact .inr ⟨j,U,ab⟩
   ·rintro(⟨U,ab⟩ | ⟨j,U,ab⟩)
    ·exact⟨0,by simpa using U,by simpa using ab⟩
    ·exact⟨j+1,U,ab⟩
  rw[split];cases ah:b == wh with
  |true=>
   have:b=wh:=by simpa using ah
   simp only[bt,ea,a8,tail];simp[this]
  |false=>
   have:b≠wh:=by simpa using ah
   simp only[bz,a8,tail];simp[this]
def UU{wh:Bool}{s:List Bool}:valid s.length (fJ wh 0 s):=λk af=>by obtain⟨j,U,ab⟩:=(C4 wh s 0 k).1 af;have:=(iO.1 ab).1;omega
def afj(g:bP)(t:bx):valid g.n (AX g t):=by have h:=UU (wh:=true) (s:=og g.ds g.n (g8 t.aa));rw[Jk]at h;exact h
def xz(az:g.ds.length=g.n):∀ l∈ei g,valid (ei g).length l:=by intro l ay;obtain⟨d,_,rfl⟩:=dB.1 ay;simp only[ei,cT,az];exact afj g d.t
def FN{s:List Bool}:(k:Int)∈fJ true 0 s ↔ jQ s k:=by
 rw[C4];unfold jQ;constructor
 ·rintro⟨j,U,ab⟩;have:k=j:=by omega
  subst this;simp[bV,ab]
 ·intro h;refine⟨k,by omega,?_⟩;have ay:=afb h;simp only[bV,ev ay,je]at h;rw[ev ay,h]
def A0(L:List (List Int)):List (List Bool):=(List.range L.length).map λi=>hq L i
def UW(R:List (List Bool))(i k:Nat):Bool:=(R.getD i []).getD k false
def Nu(R:List (List Bool))(i k:Nat):Prop:=UW R i k=true/\UW R k i=true
def Nu.symm{R:List (List Bool)}(h:Nu R i j):Nu R j i:=⟨h.2,h.1⟩
def Comes.trans(U:Comes L i j)(ab:Comes L j k):Comes L i k:=by
 induction ab with
 |self=>exact U| next _ af a8=>exact .next a8 af
def vG:il:=⟨none,0,0,[]⟩
def yZ(I:aT):vG.ok I:=⟨⟨rfl,⟨b2 _,by simp[vG]⟩,.inl rfl⟩⟩
def lh(i:Int)(n:Nat):Bool:=!decide (i<0) && !decide ((n:Int)<=i)
def g9(deb:List Int)(g:bP)(i:Int):List Int:=bif lh i g.n&&decide (cn deb g=0)then(ei g).getD i.toNat []else []
def hr(deb:List Int)(g:bP)(i:Int):List Int:=bif lh i g.n&&decide (cn deb g=0)then fJ true 0 (hq (ei g) i.toNat)else []
def kt(deb:List Int)(g:bP):List Int:=bif decide (cn deb g=0) && !decide ((g.n:Int)=0)then fJ false 0 (hq (ei g) 0)else []
def afk(bA:fr I deb)(ao:g.ok I)(az:g.n<=1099511627776)(i:Int):Spec Tryz.prog 54 [g.val,.int .i64 i] I [] λv I' M'=>(∀ b o,I b=some o->I' b=some o)/\∃ x:il,v=x.val/\x.ok I'/\x.l=g9 deb g i/\M'=[]:=by
 refine bn [] aI Tryz.func54 rfl rfl rfl ?_;intro B av;have cK:=ao.n;refine a9.mk (λU=>?_) (λU=>?_)
 ·refine a9.mk (λab=>?_) (λab=>?_)
  ·have c1:lh i g.n=true:=by have gx:decide ((g.n:Int)<=i)=false:=ab;rw[lh,U,gx];rfl
   refine aU.mk [] [] _ (.refl _) (Jf bA ao) ?_;rintro v bR M1 -⟨rfl,bK,rfl⟩;refine aB.mk (λak=>?_) (λak=>?_)
   ·refine⟨_,_,.refl,bK,vG,rfl,yZ _,?_,rfl⟩;have o0:decide (cn deb g=0)=false:=by simpa using ak
    rw[g9,c1,o0];rfl
   ·have hm:decide (cn deb g=0)=true:=by simpa using ak
    have y0:0<=i:=by simpa using U
    have e3:i<g.n:=by simpa using ab
    have hY:i.toNat<g.ds.length:=by omega
    have k':=ao.mono bK;obtain⟨ad,ba,a3⟩:=k'.aJ.row aK.bI (j:=i.toNat) (by omega) hY;have cN:g.ds[i.toNat]∈g.ds:=bJ hY;refine cr.draw aI rfl rfl rfl ?_;refine aW.mk ad i.toNat ba (by omega) (by omega) ?_;refine aE.mk _ (bq.part (k:=1) (m:=2) (a3 _) (by decide)) ?_;refine aU.mk [] [] _ (.refl _) (UJ k' az (k'.ds _ cN).t) ?_;rintro v dG ew -⟨ed,x,rfl,ae,e8,rfl⟩;refine⟨_,_,.refl,λb o h=>ed _ _ (bK _ _ h),x,rfl,ae,?_,rfl⟩;rw[g9,c1,hm,e8];simp[ei,bV,hY]
  ·refine⟨_,_,.refl,λ_ _ h=>h,vG,rfl,yZ _,?_,rfl⟩;have gx:decide ((g.n:Int)<=i)=true:=ab;rw[g9,lh,U,gx];rfl
 ·refine⟨_,_,.refl,λ_ _ h=>h,vG,rfl,yZ _,?_,rfl⟩;rw[g9,lh,U];rfl
def C5(az:g.ds.length=g.n):(ei g).length=g.n:=by simp[ei,az]
def C6(cL:∀ l∈L,valid L.length l)(hi:i<L.length):(hq L i).length=L.length:=(Ns cL hi).len
def afl(bA:fr I deb)(ao:g.ok I)(az:g.n<=1099511627776)(i:Int):Spec Tryz.prog 27 [g.val,.int .i64 i] I [] λv I' M'=>(∀ b o,I b=some o->I' b=some o)/\∃ x:il,v=x.val/\x.ok I'/\x.l=hr deb g i/\M'=[]:=by
 refine bn [] aI Tryz.func27 rfl rfl rfl ?_;intro B av;have cK:=ao.n;refine aU.mk [] [] _ (.refl _) (UO bA ao az) ?_;rintro v bR M1 -⟨bK,rfl,⟨hm,rfl⟩|⟨hm,x,rfl,ae,e8⟩⟩
 ·refine a9.mk (λh=>by cases h) (λ_=>?_);refine⟨_,_,.refl,bK,vG,rfl,yZ _,?_,rfl⟩;have o0:decide (cn deb g=0)=false:=by simpa using hm
  rw[hr,o0,yT];rfl
 ·have o0:decide (cn deb g=0)=true:=by simpa using hm
  have fU:x.n=g.n:=by have U:=ae.n;have ab:=congrArg List.length e8;simp only[m5.h4,cT,ei]at ab;omega
  have ai:∀ l∈x.h4,valid x.h4.length l:=by rw[e8];exact xz cK
  refine a9.mk (λ_=>?_) (λh=>by cases h);refine a9.mk (λU=>?_) (λU=>?_)
  ·refine aB.mk (λab=>?_) (λab=>?_)
   ·refine⟨_,_,.refl,bK,vG,rfl,yZ _,?_,rfl⟩;have gx:decide ((g.n:Int)<=i)=true:=by rw[<-fU];exact ab
    rw[hr,lh,U,gx];rfl
   ·have gx:decide ((g.n:Int)<=i)=false:=by rw[<-fU];exact ab
    have y0:0<=i:=by simpa using U
    have e3:i<g.n:=by simpa using gx
    obtain⟨j,rfl⟩:=en y0;refine aU.mk [] [] _ (.refl _) (UT ae (by omega) ai (i:=j) (by omega)) ?_;rintro v dG ew -⟨ed,r,rfl,ag,dp,rfl⟩;have ji:r.n=g.n:=by have U:=ag.n;rw[dp,C6 ai (by rw[e8,C5 cK];omega),e8,C5 cK]at U;exact U.symm
    refine aU.mk [] [] _ (.refl _) (UH ag (by omega) true) ?_;rintro v gJ qE -⟨iC,y,rfl,aA,k9,rfl⟩;refine⟨_,_,.refl,λb o h=>iC _ _ (ed _ _ (bK _ _ h)),y,rfl,aA,?_,rfl⟩;rw[hr,lh,U,gx,o0,k9,dp,e8];rfl
  ·refine⟨_,_,.refl,bK,vG,rfl,yZ _,?_,rfl⟩;rw[hr,lh,U];rfl
def afm(bA:fr I deb)(ao:g.ok I)(az:g.n<=1099511627776):Spec Tryz.prog 38 [g.val] I [] λv I' M'=>(∀ b o,I b=some o->I' b=some o)/\∃ x:il,v=x.val/\x.ok I'/\x.l=kt deb g/\M'=[]:=by
 refine bn [] aI Tryz.func38 rfl rfl rfl ?_;intro B av;have cK:=ao.n;refine aU.mk [] [] _ (.refl _) (UO bA ao az) ?_;rintro v bR M1 -⟨bK,rfl,⟨hm,rfl⟩|⟨hm,x,rfl,ae,e8⟩⟩
 ·refine a9.mk (λh=>by cases h) (λ_=>?_);refine⟨_,_,.refl,bK,vG,rfl,yZ _,?_,rfl⟩;have o0:decide (cn deb g=0)=false:=by simpa using hm
  rw[kt,o0];rfl
 ·have o0:decide (cn deb g=0)=true:=by simpa using hm
  have fU:x.n=g.n:=by have U:=ae.n;have ab:=congrArg List.length e8;simp only[m5.h4,cT,ei]at ab;omega
  have ai:∀ l∈x.h4,valid x.h4.length l:=by rw[e8];exact xz cK
  refine a9.mk (λ_=>?_) (λh=>by cases h);refine aB.mk (λab=>?_) (λab=>?_)
  ·refine⟨_,_,.refl,bK,vG,rfl,yZ _,?_,rfl⟩;have gx:decide ((g.n:Int)=0)=true:=by rw[<-fU];exact ab
   rw[kt,gx,o0];rfl
  ·have gx:decide ((g.n:Int)=0)=false:=by rw[<-fU];exact ab
   have g2:g.n≠0:=by simp at gx;omega
   refine aU.mk [] [] _ (.refl _) (UT ae (by omega) ai (i:=0) (by omega)) ?_;rintro v dG ew -⟨ed,r,rfl,ag,dp,rfl⟩;have ji:r.n=g.n:=by have U:=ag.n;rw[dp,C6 ai (by rw[e8,C5 cK];omega),e8,C5 cK]at U;exact U.symm
   refine aU.mk [] [] _ (.refl _) (UH ag (by omega) false) ?_;rintro v gJ qE -⟨iC,y,rfl,aA,k9,rfl⟩;refine⟨_,_,.refl,λb o h=>iC _ _ (ed _ _ (bK _ _ h)),y,rfl,aA,?_,rfl⟩;rw[kt,gx,o0,k9,dp,e8];rfl
structure vH where
 rows:List pV
 a:Option Addr
 n:Nat
 c:Nat
def vH.val(x:vH):Value:=.slice x.a x.n x.c
structure vH.ok(I:aT)(x:vH):Prop where
 aJ:gb I x.a x.n x.c 1 24 (x.rows.map pV.val)
 rows:∀ r∈x.rows,r.ok I
def pY(W:World):aT:=λb=>W.heap[b]?
def afn(W:World):ef (pY W) [] W:=⟨λb o h=>h,(λx ae=>by cases ae),(λx ae=>by cases ae),Cm⟩
structure A1(W ko:World):Prop where
 dL:∀ b,b<W.heap.size->ko.heap[b]?=W.heap[b]?
 sz:W.heap.size<=ko.heap.size
 out:nW W ko
def afo{f:Nat}{args:List Value}{post:Value->aT->List aD->Prop}(h:wX P f args (pY W) [] post) :
  Calls P f args.toArray W λe ko=>∃ v,e=.returned v/\(∃ I' M',post v I' M')/\A1 W ko:=by
 refine(h.2 W (afn W)).mono ?_;rintro e ko⟨v,I',M',rfl,aN,_,cb⟩;exact⟨v,rfl,⟨I',M',aN⟩,λb ah=>cb.dL b ah (λy aA=>by cases aA),cb.sz,cb.out⟩
def A1.kept(h:A1 W ko)(may:MemPlace->Prop):W.keptBut ko may:=by
 refine⟨h.out.1,h.out.2,λi hi=>?_⟩;rw[h.dL i hi];cases W.heap[i]? with
 |none=>rfl| some o=>cases o<;>simp
def A1.frozen(h:A1 W ko){a:Addr}(aX:a.block<W.heap.size):ko.frozen? a=W.frozen? a:=by unfold World.frozen?;rw[h.dL _ aX]
variable{H:Type}{enc:TypeId×Value->H}{P:Program}
def afp{f:Func}{s:ChangeSpec}{apart fresh handsOn again:Bool}{args:Array Value}{ds gs:List (DataW H)}{before pa pv:List MemPlace}(gi:DataW.Whole enc P f.params.toList s.vars apart W args.toList ds gs before)(xA:∀ (b:Nat) (ek:Nat->Bool) (al:Bool),DataW.TrodAll enc P ko b ek al f.resultTypes.toList (v.resultList f.resultTypes.size) (s.fn H (ds++gs)).results [])(mw:∀ ek:Nat->Bool,(∀ p∈before,ek p.block=true)->DataW.TrodAll enc P ko 0 ek true f.params.toList args.toList (s.fn H (ds++gs)).args pa)(UX:∀ ek:Nat->Bool,(∀ p∈before,ek p.block=true)->DataW.TrodVars enc P ko ek s.vars (s.fn H (ds++gs)).vars pv)(C7:before=pa++pv)(af:A1 W ko)(bM:∀ (j:Nat) (t:TypeId) (r:Value),f.resultTypes[j]?=some t->(v.resultList f.resultTypes.size)[j]?=some r->Value.okWide P ko .any 0 t r) :
  s.post enc P f apart fresh handsOn again W args v ko:=by
 have hold:∀ p∈before,(λb=>decide (b<W.heap.size)) p.block=true:=λp aN=>by simpa using gi.lt p aN
 have ax:∀ p∈before,p.block<W.heap.size:=λp aN=>gi.lt p aN;refine⟨ds,gs,before,[],pa,pv,gi,xA _ _ _,mw _ hold,UX _ hold,World.keptBut_mono (λp aN=>⟨aN,?_⟩) (af.kept (·∈before)),λ_=>?_⟩
 ·rw[C7,dm]at aN;exact Or.inr aN
 ·obtain⟨_,_,_,_,_,a2,az⟩:=gi;refine⟨bM,_,_,([]++pa)++pv,⟨[]++pa,pv,ChangeShapes.trodAll_append (mw _ (λ_ _=>rfl)) (xA _ _ _),UX _ (λ_ _=>rfl),rfl,?_,?_⟩,?_⟩
  ·intro b off aN;have rW:MemPlace.cell b off∈before:=by rw[C7];simpa using aN
   rw[af.frozen (a:=⟨b,off,none⟩) (ax _ rW)];exact a2 b off rW
  ·intro aX;have:=az aX;rw[C7]at this;simpa using this
  ·intro p aN _;rw[C7];simpa using aN
def xB:DataW H->Option Value
 | .lit (.int k z)=>some (.int k z)| .lit (.string l)=>some (.string ⟨l.toArray⟩)| .lit (.bool b)=>some (.bool b)| _=>none
def FO(P:Program)(e:TypeId):Bool:=match P.underlying e with
 |some .bool | some (.int _) | some .string=>true| _=>false
section
variable{w:World}{base:Nat}{ek:Nat->Bool}{held:Bool}{eH:Nat}{t e:TypeId}{cs:List Value}{d:DataW H}{p:List MemPlace}
def UY(he:FO P e=true)(h:DataW.trod enc P w base ek held eH e cs=some (d,p))(ai:xB d=some v):cs=[v]:=by
 unfold FO at he;split at he
 ·rename_i hu;obtain⟨b,rfl,ae⟩:=DataW.trod_bool hu h;cases ae;simpa[xB]using ai
 ·rename_i k hu;obtain⟨n,rfl,ae,_⟩:=DataW.trod_int hu h;cases ae;simpa[xB]using ai
 ·rename_i hu;obtain⟨s,rfl,ae,_⟩:=MZ hu h;cases ae;simpa[xB]using ai
 ·cases he
def Jq{α β:Type}{f:α->Option β}:∀ {l:List α} {r:List β},l.mapM f=some r->r.length=l.length/\∀ i (h:i<l.length) (aG:i<r.length),f l[i]=some r[i]
 |[],r,h=>by simp at h;subst h;exact⟨rfl,λi h=>by simp at h⟩
 |x::l,r,h=>by
  simp only[EF,Option.bind_eq_bind,LR,Option.pure_def,jY]at h;obtain⟨b,ah,tE,gP,rfl⟩:=h;obtain⟨U,ab⟩:=Jq gP;refine⟨by simp[U],λi hi ck=>?_⟩;cases i with
  |zero=>simpa using ah| succ i=>simpa using ab i (by simpa using hi) (by simpa using ck)
def UZ{cs:List Value}(ay:cs.length=vs.length)(h:∀ i (hi:i<vs.length),(cs.drop i).take 1=[vs[i]]):cs=vs:=by apply rE ay;intro i U ab;have:=h i ab;rw[dv U,nq,mi]at this;simpa using this
def U0{n:Nat}(aq:P.underlying t=some (.array n e))(he:FO P e=true)(rX:P.cellsOf e=1)(dJ:P.cellsOf t=n){ds:List (DataW H)}(h:DataW.trod enc P w base ek held eH t cs=some (.agg ds,p))(ai:ds.mapM xB=some vs):cs=vs:=by
 obtain⟨xs,m,rfl,ae,ay,e8,hi⟩:=M4 aq h;have e0:ds=xs.map (·.1):=by have:=congrArg Prod.fst ae;simpa using this
 obtain⟨a6,bb⟩:=Jq ai;have o2:vs.length=n:=by rw[a6,e0];simpa using e8
 refine UZ (by rw[ay,dJ,o2]) λi ck=>?_;have U:=hi i (by omega);rw[rX,fh]at U;have uc:i<xs.length:=by omega
 rw[ev uc]at U;have ab:=bb i (by rw[e0];simpa using uc) ck;have ak:ds[i]'(by rw[e0];simpa using uc)=xs[i].1:=by simp[e0]
 rw[ak]at ab;exact UY he (d:=xs[i].1) (p:=xs[i].2) U ab
def afq{cC:Array Field}(aq:P.underlying t=some (.struct cC))(au:∀ (i:Nat) (f:Field),cC[i]?=some f->FO P f.type=true/\f.offset=i/\P.cellsOf f.type=1)(dJ:P.cellsOf t=cC.size){ds:List (DataW H)}(h:DataW.trod enc P w base ek held eH t cs=some (.agg ds,p))(ai:ds.mapM xB=some vs):cs=vs:=by
 obtain⟨xs,m,rfl,ae,ay,e8,hi⟩:=DataW.trod_struct aq h;have e0:ds=xs.map (·.1):=by have:=congrArg Prod.fst ae;simpa using this
 obtain⟨a6,bb⟩:=Jq ai;have o2:vs.length=cC.size:=by rw[a6,e0];simpa using e8
 refine UZ (by rw[ay,dJ,o2]) λi ck=>?_;have U1:i<cC.size:=by omega
 obtain⟨da,bZ,fG⟩:=au i cC[i] (LQ U1);have U:=hi i cC[i] (LQ U1);rw[bZ,fG]at U;have uc:i<xs.length:=by omega
 rw[ev uc]at U;have ab:=bb i (by rw[e0];simpa using uc) ck;have ak:ds[i]'(by rw[e0];simpa using uc)=xs[i].1:=by simp[e0]
 rw[ak]at ab;exact UY da (d:=xs[i].1) (p:=xs[i].2) U ab
def U2{sz:Nat}:∀ (rows:List (List Value)) (cs:List Value),cs.length=rows.length*sz->(∀ i (hi:i<rows.length),(cs.drop (i*sz)).take sz=rows[i])->cs=rows.flatten
 |[],cs,ay,_=>hZ (by simpa using ay)
 |r::rows,cs,ay,h=>by
  have av:=h 0 (by simp);simp only[xe,qC,vp]at av;rw[cS,lG,qD]at ay;have a8:=U2 (sz:=sz) rows (cs.drop sz) (by rw[n3];omega) λi hi=>by have:=h (i+1) (by simpa using hi);rw[Mw,show sz+i*sz=(i+1)*sz from by rw[lG];omega];simpa using this
  rw[M2,<-a8,<-av,rB]
def afr{n:Nat}(aq:P.underlying t=some (.array n e))(rX:P.cellsOf e=sz)(dJ:P.cellsOf t=n*sz){ds:List (DataW H)}(h:DataW.trod enc P w base ek held eH t cs=some (.agg ds,p))(ag:rows.length=ds.length)
  (c1:∀ i (hi:i<ds.length) (ck:i<rows.length) eH cs p,DataW.trod enc P w base ek held eH e cs=some (ds[i],p)->cs=rows[i]):cs=rows.flatten:=by
 obtain⟨xs,m,rfl,ae,ay,e8,hi⟩:=M4 aq h;have e0:ds=xs.map (·.1):=by have:=congrArg Prod.fst ae;simpa using this
 have dp:rows.length=n:=by rw[ag,e0];simpa using e8
 refine U2 (sz:=sz) rows cs (by rw[ay,dJ,dp]) λi ck=>?_;have U:=hi i (by omega);rw[rX]at U;have uc:i<xs.length:=by omega
 rw[ev uc]at U;have ak:ds[i]'(by rw[e0];simpa using uc)=xs[i].1:=by simp[e0]
 exact c1 i (by rw[e0];simpa using uc) ck m _ xs[i].2 (by rw[ak];exact U)
def U3(d:DataW H):Option (List Value):=match d with
 | .agg l=>l.mapM xB| _=>none
def Nv{n:Nat}(aq:P.underlying t=some (.array n e))(rX:P.cellsOf e=sz)(dJ:P.cellsOf t=n*sz){ds:List (DataW H)}(h:DataW.trod enc P w base ek held eH t cs=some (.agg ds,p))(ag:ds.mapM U3=some rows)
  (c1:∀ eH cs p l row,DataW.trod enc P w base ek held eH e cs=some (.agg l,p)->l.mapM xB=some row->cs=row):cs=rows.flatten:=by
 obtain⟨a6,bb⟩:=Jq ag;refine afr aq rX dJ h a6 λi hi ck eH cs p aG=>?_;have ab:=bb i hi ck;unfold U3 at ab;split at ab
 ·rename_i l ay;rw[ay]at aG;exact c1 _ _ _ _ _ aG ab
 ·cases ab
end
end Go.V
namespace Go.V
open Go Go.Proofs
variable{d:aH}{P:Program}{t:bx}{x y:Operand}{I I':aT}{i j t1 t2 t3 k size sz:Nat}{deb:List Int}{g:bP}{w:Bool}{F:Fr}{C:c8}{M:List aD}{vs xs:List Value}{α:Type}{X:cO}{c:Code}{s:ByteArray}{dr sT:dW}{l:List (ByteArray×Int)}{v:Value}{os:aY}{m:List Bool}{L:List (List Int)}{W ko:World}{rows:List (List Value)}
def Jr{n:String}{g:Nat}{cs:Array Value}(ao:P.globalNamed n=some g)(h:W.var? P n=some cs):∃ T an,W.heap[g]?=some (.cells cs T an):=by
 simp only[World.var?,ao,Option.bind_some]at h;split at h
 ·rename_i c T an cj;cases h;exact⟨T,an,cj⟩
 ·cases h
def cG:List Int:=[0,1,56,2,57,49,28,3,61,58,42,50,38,29,17,4,62,47,59,36,45,43,51,22,53,39,33,30,24,18,12,5,63,55,48,27,60,41,37,16,46,35,44,21,52,32,23,11,54,26,40,15,34,20,31,10,25,14,19,9,13,8,7,6]
def afs{rest:List (String×DataW Unit)}(h:laidMet Tryz.prog ([("math/bits.deBruijn32tab",YtafmlpfnapaghaaGreatDoor.Rows.laid_math_bits_deBruijn32tab),("math/bits.deBruijn64tab",YtafmlpfnapaghaaGreatDoor.Rows.laid_math_bits_deBruijn64tab),("internal/strconv.uint64pow10",YtafmlpfnapaghaaGreatDoor.Rows.laid_internal_strconv_uint64pow10),("bonsai/tree.counts",YtafmlpfnapaghaaGreatDoor.Rows.laid_bonsai_tree_counts),("bonsai/print.counts",YtafmlpfnapaghaaGreatDoor.Rows.laid_bonsai_print_counts),("bonsai/print.signs",YtafmlpfnapaghaaGreatDoor.Rows.laid_bonsai_print_signs)]++rest) W):fr (pY W) cG:=by
 obtain⟨ps,cL,_⟩:=h;obtain⟨a6,t1,aqE,f1,CO,c5,k',pQ,Ij,gU,cL,_⟩:=cL;obtain⟨bb,t2,U4,f2,Fq,c7,lM,pR,mR,mu,cL,_⟩:=cL;obtain⟨b0,t3,U5,f3,aqF,dS,oX,y1,Nw,AZ,cL,_⟩:=cL;obtain⟨fy,t4,aft,f4,aqG,eP,AT,Nx,afu,afv,cL,_⟩:=cL;obtain⟨kL,t5,afw,f5,aqH,U6,U7,FP,afx,afy,cL,_⟩:=cL;obtain⟨Js,t6,afz,f6,aqI,Ny,U8,afA,afB,afC,cL,_⟩:=cL;obtain rfl:=kn ((show Tryz.prog.globalNamed "math/bits.deBruijn64tab" = some 4 by kernel_rfl).symm.trans lM)
 obtain rfl:=kn ((show(Tryz.prog.globals[4]?).map (·.type)=some 284 by kernel_rfl).symm.trans pR);obtain rfl:=kn ((show Tryz.prog.globalNamed "bonsai/tree.counts" = some 0 by kernel_rfl).symm.trans AT)
 obtain rfl:=kn ((show(Tryz.prog.globals[0]?).map (·.type)=some 183 by kernel_rfl).symm.trans Nx);obtain rfl:=kn ((show Tryz.prog.globalNamed "bonsai/print.counts" = some 3 by kernel_rfl).symm.trans U7)
 obtain rfl:=kn ((show(Tryz.prog.globals[3]?).map (·.type)=some 277 by kernel_rfl).symm.trans FP);obtain rfl:=kn ((show Tryz.prog.globalNamed "bonsai/print.signs" = some 1 by kernel_rfl).symm.trans U8)
 obtain rfl:=kn ((show(Tryz.prog.globals[1]?).map (·.type)=some 252 by kernel_rfl).symm.trans afA);obtain⟨AR,gf,cc⟩:=Jr lM mR;obtain⟨Ni,oh,vI⟩:=Jr AT afu;obtain⟨afD,afE,fS⟩:=Jr U7 afx;obtain⟨afF,afG,b6⟩:=Jr U8 afB;have dg:U4.toList=cG.map (Value.int .u8):=U0 (show Tryz.prog.underlying 284=some (.array 64 5) by kernel_rfl) (by kernel_rfl) (by kernel_rfl) (by kernel_rfl) mu (by kernel_rfl);have my:aft.toList=mo.map (Value.int .i64):=Nv (n:=10) (sz:=2) (show Tryz.prog.underlying 183=some (.array 10 182) by kernel_rfl) (by kernel_rfl) (by kernel_rfl) afv (rows:=[[.int .i64 0,.int .i64 0],[.int .i64 0,.int .i64 0],[.int .i64 0,.int .i64 0],[.int .i64 0,.int .i64 0],[.int .i64 2,.int .i64 (-1)],[.int .i64 2,.int .i64 (-1)],[.int .i64 1,.int .i64 1],[.int .i64 1,.int .i64 1],[.int .i64 1,.int .i64 1],[.int .i64 1,.int .i64 1]]) (by kernel_rfl) (λ_ _ _ _ _ U ab=>U0 (show Tryz.prog.underlying 182=some (.array 2 3) by kernel_rfl) (by kernel_rfl) (by kernel_rfl) (by kernel_rfl) U ab);have fields:∀ {t:TypeId},(match Tryz.prog.underlying t with
   |some (.struct cC)=>decide (Tryz.prog.cellsOf t=cC.size)&&(List.range cC.size).all λi=>match cC[i]? with
    |some f=>FO Tryz.prog f.type&&(decide (f.offset=i)&&decide (Tryz.prog.cellsOf f.type=1))| none=>false
   |_=>false)=true->∀ (eH:Nat) (cs:List Value) (p:List MemPlace) (l:List (DataW Unit)) (row:List Value),DataW.trod (λ_=>()) Tryz.prog W 0 (λ_=>true) false eH t cs=some (.agg l,p)->l.mapM xB=some row->cs=row:=by
  intro t aC eH cs p l row U ab;split at aC;·rename_i cC hu;simp only[b',fk,et,kf]at aC;refine afq hu (λi f au=>?_) aC.1 U ab;have hi:=aC.2 i (l6.1 au).1;rw[au]at hi;simpa using hi
  ·cases aC
 have oi:afw.toList=Fw:=Nv (n:=3) (sz:=3) (show Tryz.prog.underlying 277=some (.array 3 276) by kernel_rfl) (by kernel_rfl) (by kernel_rfl) afy (rows:=[[.int .i64 0,.int .i64 1,.string ⟨#[63]⟩],[.int .i64 0,.int .i64 (-1),.string ⟨#[42]⟩],[.int .i64 1,.int .i64 (-1),.string ⟨#[43]⟩]]) (by kernel_rfl) (fields (by kernel_rfl));have sW:afz.toList=tT.map λl=>Value.string (strOf l):=Nv (n:=10) (sz:=3) (show Tryz.prog.underlying 252=some (.array 10 251) by kernel_rfl) (by kernel_rfl) (by kernel_rfl) afC (rows:=[[.string ⟨#[]⟩,.string ⟨#[]⟩,.string ⟨#[]⟩],[.string ⟨#[]⟩,.string ⟨#[]⟩,.string ⟨#[]⟩],[.string ⟨#[]⟩,.string ⟨#[]⟩,.string ⟨#[]⟩],[.string ⟨#[]⟩,.string ⟨#[]⟩,.string ⟨#[]⟩],[.string ⟨#[]⟩,.string ⟨#[32]⟩,.string ⟨#[]⟩],[.string ⟨#[]⟩,.string ⟨#[32,47,32]⟩,.string ⟨#[]⟩],[.string ⟨#[]⟩,.string ⟨#[]⟩,.string ⟨#[]⟩],[.string ⟨#[38]⟩,.string ⟨#[]⟩,.string ⟨#[]⟩],[.string ⟨#[33]⟩,.string ⟨#[]⟩,.string ⟨#[]⟩],[.string ⟨#[60]⟩,.string ⟨#[]⟩,.string ⟨#[62]⟩]]) (by kernel_rfl) (fields (by kernel_rfl));have arr:∀ {cs:Array Value} {l:List Value},cs.toList=l->cs=l.toArray:=λh=>by apply gF;simpa using h
 refine⟨⟨Ni,oh,?_⟩,⟨afD,afE,?_⟩,⟨afF,afG,?_⟩,by decide,by decide,AR,gf,?_⟩
 ·rw[<-arr my];exact vI
 ·rw[<-arr oi];exact fS
 ·rw[<-arr sW];exact b6
 ·rw[<-arr dg];exact cc
def C8(cs:Array Value):Obj->Obj
 | .cells _ t an=>.cells cs t an| o=>o
def afH:List Int:=(List.range 20).map λi=>(10:Int)^i
def afI:List Int:=[0,1,28,2,29,14,24,3,30,22,20,15,25,17,4,8,31,27,13,23,21,19,16,7,26,12,18,6,11,5,10,9]
noncomputable def Nz(os:Os):World:=
 { World.holding Tryz.prog os ⟨#[],#[],[]⟩with heap:=((((((World.holding Tryz.prog os ⟨#[],#[],[]⟩).heap.modify 0 (C8 (mo.map (Value.int .i64)).toArray)).modify 3 (C8 Fw.toArray)).modify 1 (C8 (tT.map λl=>Value.string (strOf l)).toArray)).modify 4 (C8 (cG.map (Value.int .u8)).toArray)).modify 5 (C8 (afH.map (Value.int .u64)).toArray)).modify 6 (C8 (afI.map (Value.int .u8)).toArray) }
def own:ownKnob Tryz.prog.godebug=none:=by kernel_rfl
def laidOut:laidOutB Tryz.prog=true:=by kernel_rfl
def U9{l:List α}{q:α->Bool}(h:l.all q=true){x:α}(ae:x∈l):q x=true:=et.1 h x ae
def afJ{L:List (String×DataW Unit)}(cL:laidMetH Tryz.prog L W)(he:L=[("math/bits.deBruijn32tab",YtafmlpfnapaghaaGreatDoor.Rows.laid_math_bits_deBruijn32tab),("math/bits.deBruijn64tab",YtafmlpfnapaghaaGreatDoor.Rows.laid_math_bits_deBruijn64tab),("internal/strconv.uint64pow10",YtafmlpfnapaghaaGreatDoor.Rows.laid_internal_strconv_uint64pow10),("bonsai/tree.counts",YtafmlpfnapaghaaGreatDoor.Rows.laid_bonsai_tree_counts),("bonsai/print.counts",YtafmlpfnapaghaaGreatDoor.Rows.laid_bonsai_print_counts),("bonsai/print.signs",YtafmlpfnapaghaaGreatDoor.Rows.laid_bonsai_print_signs)]):fr (pY W) cG:=by
 subst he;exact afs (rest:=[]) cL
structure A2(I:aT)(d:aH):Prop where
 k:0<=d.k/\d.k<256
 cF:e5 d.cF
 s1:e5 d.s1
 s2:e5 d.s2
 dt:e5 d.dt
 lo:iY d.lo
 hi:iY d.hi
 aJ:gb I d.eA d.aZ d.ej 1 0 (d.kids.map (.int .i64 ·))
 kids:∀ x∈d.kids,iY x
 eJ:d.t.size<=9223372036854775807
structure xC(I:aT)(t:bx):Prop where
 aJ:gb I t.a t.n t.c 9 0 (t.aa.flatMap aH.cells)
 aa:∀ d∈t.aa,A2 I d
 root:iY t.root
structure FQ(I:aT)(d:aK):Prop where
 name:d.name.size<=9223372036854775807
 t:xC I d.t
structure vJ(I:aT)(g:bP):Prop where
 aJ:gb I g.a g.n g.c 3 0 (g.ds.flatMap aK.cells)
 ds:∀ d∈g.ds,FQ I d
def gb.A3{a:Option Addr}{n c b ic:Nat}(h:gb I a n c size b vs)(ah:n*ic<=140737488355328):gb I a n c size ic vs:=⟨h.len,⟨h.cap.1,ah⟩,h.rd⟩
structure NA(d:aH):Prop where
 aZ:d.aZ<2500
structure U'(d:aK):Prop where
 name:d.name.size<2500
 n:d.t.n<2500
 aa:∀ bE∈d.t.aa,NA bE
structure afK(g:bP):Prop where
 n:g.n<2500
 ds:∀ d∈g.ds,U' d
def A2.ok(h:A2 I d)(ar:NA d):d.ok I:=
 ⟨h.k,h.cF,h.s1,h.s2,h.dt,h.eJ,h.lo,h.hi,h.aJ.A3 (by have:=ar.aZ;omega),h.kids⟩
def FQ.ok{d:aK}(h:FQ I d)(ar:U' d):d.ok I:=
 ⟨by have:=ar.name;omega,⟨h.t.aJ.A3 (by have:=ar.n;omega),λbE bW=>(h.t.aa bE bW).ok (ar.aa bE bW),h.t.root⟩⟩
def vJ.ok(h:vJ I g)(ar:afK g):g.ok I:=
 ⟨h.aJ.A3 (by have:=ar.n;omega),λd al=>(h.ds d al).ok (ar.ds d al)⟩
def vJ.n(h:vJ I g):g.ds.length=g.n:=by have:=h.aJ.len;rw[gd _ 3 aK.bI]at this;omega
def xC.n(h:xC I t):t.aa.length=t.n:=by have:=h.aJ.len;rw[gd _ 9 aH.bI]at this;omega
def ku{x r:Int}(h:x=r)(ag:-9223372036854775808<=r/\r<=9223372036854775807):IntKind.i64.wrap x=r:=by rw[h];exact wrap_i64 ag
def aY.FR{l:List Int}{e:Nat}(h:os.ok 1 (l.map (.int .i64 ·)))(aV:∀ x∈os.aw e,x∈M)(aj:j<l.length) :
  ∃ ad,(os.a.map λg=>(⟨g,0,none⟩:Addr))=some ad/\bq I M (ad.add (j*1)) 1 [.int .i64 l[j]]:=by
 obtain⟨a,n,c,cur⟩:=os;have ay:=h.o1;simp only at ay;cases a with
 |none=>have:=(h.nil rfl).1;simp only at this;omega
 |some g=>
  obtain⟨U,ab,ak,aL⟩:=h.cap g rfl;simp only at U ab aL;refine⟨⟨g,0,none⟩,rfl,?_⟩;rw[dF _ rfl];refine⟨rfl,_,_,_,.inr ⟨⟨g,.cells cur.toArray e (0,0)⟩,aV _ (by simp[aY.aw]),rfl,rfl⟩,?_,rfl⟩;simp only[cM,fh];have jA:j<(l.map (Value.int .i64)).length:=by simpa using aj
  have aF:(cur.take (n*1))[j]?=some (.int .i64 l[j]):=by rw[aL];simp[aj]
  rw[kA]at aF;have ms:j<n*1:=by omega
  rw[cw ms]at aF;have Va:j<cur.length:=(iO.1 aF).1;rw[dv Va,nq,mi];rw[ev Va]at aF;rw[kn aF]
end Go.V
