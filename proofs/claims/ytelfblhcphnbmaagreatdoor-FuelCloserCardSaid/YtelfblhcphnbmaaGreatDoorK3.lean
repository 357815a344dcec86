/- Part 3 of what the proofs of this seat share: the executor, data in memory, walks.
-/
import Derived.Test.YtelfblhcphnbmaaGreatDoorK2
import Derived.WideMake
import Derived.ChangeSame
import Derived.ChangeArms
import Derived.OpenShut
import Derived.Deep.DeepHandedRow
import Derived.Lib.LaidTab
import Derived.Test.YtelfblhcphnbmaaGreatDoorRows
import Derived.Test.YtelfblhcphnbmaaGreatDoorCards
import Derived.Test.YtelfblhcphnbmaaGreatDoorTie
import Derived.WalkKit
import Derived.ProofKit
import Derived.WideKeyArgs
import Derived.Below
import Derived.JoinedOf
import Derived.Laws.IdiomStrings
set_option linter.all false
set_option maxHeartbeats 8000000
namespace Go.V
open Go Go.Proofs
def ef:=@decide_eq_false
def dP:=@decide_eq_true
def kc:=@of_decide_eq_false
def gq:=@Nat.zero_le
def lM:=@Option.some.inj
def q2:=@List.perm_middle
def w0:=@MapKept.run_getObj_map
def w1:=@MapKept.run_checkKey
def sI:=@List.cons.injEq
def w2:=@MapKept.run_findKey
def w3:=@List.getElem_of_mem
def zz:=@ByteArray.size_append
def CG:=@Int.tdiv_eq_ediv_of_nonneg
def zA:=@Int.ofNat_eq_natCast
def sJ:=@List.map_map
def CH:=@MapKept.run_setObj_map
def ur:=@Nat.mul_comm
def zB:=@List.all_append
def CI:=@List.all_eq_false
def CJ:=@DataW.trod_string
def CK:=@List.flatten_cons
def CL:=@DataW.trod_array
def CM:=@List.sum_append
variable{d:aH}{P:Program}{t:cc}{x y:Operand}{I I':aG}{deb:List Int}{g:cO}{w:Bool}{F:Fr}{C:b6}{M:List aC}{vs args cs:List Value}{K:Value->aG->List aC->Prop}{α:Type}{X:bO}{c f sz size ca base src dst:Nat}{cA w4 av w5:cF}{v:Value}{L:List (List Int)}{W gy:World}{bB:Array Field}{rows:List (List Value)}{p:List MemPlace}{pl:List (ByteArray×Int)}{bA:List Nat}
structure zC(d:aH):Prop where
 k:d.k<10
 t:d.t.size<=255
 w6:d.k=6->0<=d.lo/\d.lo<=99/\(d.hi=-1\/(d.lo<=d.hi/\d.hi<=99))
def IK{n:Int}(h:fits d n=true):zC d:=by
 unfold fits at h;cases U:decide (10<=d.k)with
 |true=>rw[U]at h;cases h
 |false=>
  rw[U]at h;simp only[bj]at h;have aj:d.k<10:=by simpa using U
  cases aa:(decide (n<uf d.k.toNat)||(decide (0<=om d.k.toNat)&&decide (om d.k.toNat<n)))with
  |true=>rw[aa]at h;cases h
  |false=>
   rw[aa]at h;simp only[bj]at h;have cv:d.t=⟨#[]⟩->d.t.size<=255:=λe=>by rw[e];decide
   cases ak:decide (d.k=1)with
   |true=>rw[ak]at h;simp only[bn,bs,e3]at h;exact⟨aj,cv h.1,λe=>by simp at ak;omega⟩
   |false=>
    rw[ak]at h;simp only[bj]at h;cases aL:decide (d.k=2)with
    |true=>rw[aL]at h;simp only[bn,bs,ln,mq,nb]at h;exact⟨aj,by omega,λe=>by simp at aL;omega⟩
    |false=>
     rw[aL]at h;simp only[bj]at h;cases be:(decide (d.k=3)||decide (d.k=9))with
     |true=>rw[be]at h;simp only[bn,bs]at h;refine⟨aj,?_,λe=>by simp at be;omega⟩;have:=h.1;unfold hH at this;simp only[bs,e3]at this;omega
     |false=>
      rw[be]at h;simp only[bj]at h;cases bT:decide (d.k=6)with
      |true=>
       rw[bT]at h;simp only[bn,bs,e3,ln,mq,nb,Bool.and_eq_false_iff]at h;refine⟨aj,cv h.2.2,λ_=>?_⟩;obtain⟨⟨aI,aQ,bG⟩,_⟩:=h;refine⟨by omega,by omega,?_⟩;rcases bG with bG | bG
       ·left
        simpa using bG
       ·right
        omega
      |false=>rw[bT]at h;simp only[bj,bs,e3]at h;exact⟨aj,cv h.2.1,λe=>by simp at bT;omega⟩
def w7:List Value:=[.int .i64 0,.int .i64 1,.string ⟨#[63]⟩,.int .i64 0,.int .i64 (-1),.string ⟨#[42]⟩,.int .i64 1,.int .i64 (-1),.string ⟨#[43]⟩]
def CN(I:aG):Prop:=∃ T ah,I 3=some (.cells w7.toArray T ah)
def sK(lo:Nat)(hi:Int):List UInt8:=
 bif decide (hi=lo)then [123]++ie lo++[125]else
 bif decide (hi=-1)then [123]++ie lo++[44,125]else [123]++ie lo++[44]++ie hi.toNat++[125]
def mH(lo:Nat)(hi:Int):List UInt8:=
 bif decide ((0:Int)=lo)&&decide (1=hi)then [63]else
 bif decide ((0:Int)=lo)&&decide (-1=hi)then [42]else
 bif decide ((1:Int)=lo)&&decide (-1=hi)then [43]else sK lo hi
def PP(lo:Nat)(hi:Int):(sK lo hi).length<=7:=by
 have U:=wS lo;have aa:=wS hi.toNat;unfold sK;cases decide (hi=lo)<;>cases decide (hi=-1)<;>simp<;>omega
def PQ(lo:Nat)(hi:Int):(mH lo hi).length<=7:=by
 have U:=PP lo hi;unfold mH;cases(decide ((0:Int)=lo)&&decide (1=hi))<;>cases(decide ((0:Int)=lo)&&decide (-1=hi))<;>cases(decide ((1:Int)=lo)&&decide (-1=hi))<;>simp<;>omega
def IL(n:Nat):(qU n).size<=2:=wS n
def kd(lo hi:Int):aH:=⟨6,0,0,0,0,⟨#[]⟩,lo,hi,none,0,0,[]⟩
def PR{lo:Nat}{hi:Int}(dx:lo<=99)(dU:hi=-1\/((lo:Int)<=hi/\hi<=99)):fits (kd lo hi) 1=true:=by
 have ax:uf 6=1:=by decide
 have aS:om 6=1:=by decide
 rcases dU with rfl | ⟨U,aa⟩
 ·simp[fits,kd,ax,aS,aH.oo];exact⟨ef (by omega),ef (by omega)⟩
 ·simp[fits,kd,ax,aS,aH.oo];exact⟨ef (by omega),ef (by omega),.inr ⟨ef (by omega),ef (by omega)⟩⟩
def PS(a b:List UInt8):strOf a++strOf b=strOf (a++b):=by apply uk;simp[strOf]
def eI.q3{t:Nat}{a b:List UInt8}(an:a.length+b.length<=9223372036854775807){V:Value->Prop}{other:Prop}(h:V (.string (strOf (a++b)))):eI P .add t x y (.val (.string (strOf a))) (.val (.string (strOf b))) V other:=
 eI.concat (a:=strOf a) (b:=strOf b) an (by rw[PS];exact h)
def PT(aB:k1 I)(aK:CN I)(lo:Nat)(hi:Int)(dx:lo<=99)(dU:hi=-1\/((lo:Int)<=hi/\hi<=99)):Spec Tryz.prog 230 [.int .i64 lo,.int .i64 hi] I []
  λr I' M'=>r=.string (strOf (mH lo hi))/\I'=I/\M'=[]:=by
 refine cB [] a8 Tryz.func230 rfl rfl rfl ?_;intro B aD;have bm:(kd lo hi).ok I:=⟨by simp[kd],by simp[kd,eu],by simp[kd,eu],by simp[kd,eu],by simp[kd,eu],by show(0:Nat)<=_;omega,⟨by simp only[kd];omega,by simp only[kd];omega⟩,⟨by simp only[kd];omega,by simp only[kd];omega⟩,⟨rfl,⟨cK _,by simp[kd]⟩,.inl rfl⟩,by simp[kd]⟩;refine aY.mk [] [] _ (.refl _) (H2 aB bm 1) ?_;rintro v I' M' -⟨rfl,rfl,rfl⟩;rw[PR dx dU];refine a1.mk (λh=>by cases h) (λ_=>?_);have cj:cx I' ([]++[]) ⟨3,0,none⟩ 9 w7:=by obtain⟨T,ah,aK⟩:=aK;exact⟨rfl,_,T,ah,.inl aK,rfl,rfl⟩
 refine ba.mk _ cj ?_;refine fh.inv (ι:=Nat) (λi=>{ b8:=[(0,.val (.int .i64 lo)),(1,.val (.int .i64 hi)),(12,.val (.agg w7.toArray)),(13,.val (.int .i64 i))],dL:=I' }) (λi=>i<=3/\(1<=i->(decide ((0:Int)=lo)&&decide (1=hi))=false)/\(2<=i->(decide ((0:Int)=lo)&&decide (-1=hi))=false)/\(3<=i->(decide ((1:Int)=lo)&&decide (-1=hi))=false)) (λi=>3-i) ?_ ?_
 ·exact⟨0,⟨by simp,by simp,by simp,by simp⟩,.refl,ei,.nil⟩
 ·rintro i⟨fD,b3,m2,PU⟩
  match i,fD with
  |0,_=>
   refine a1.mk (λ_=>?_) (λh=>by simp at h);refine eo.mk 0 rfl (by decide) ?_;have next:(decide ((0:Int)=lo)&&decide (1=hi))=false->(((0+1:Nat)<=3/\(1<=(0+1:Nat)->(decide ((0:Int)=lo)&&decide (1=hi))=false)/\(2<=(0+1:Nat)->(decide ((0:Int)=lo)&&decide (-1=hi))=false)/\(3<=(0+1:Nat)->(decide ((1:Int)=lo)&&decide (-1=hi))=false))/\3-(0+1)<3-0):=λh=>by
    refine⟨⟨by simp,λ_=>?_,λb7=>?_,λb7=>?_⟩,by simp⟩;·exact h
    ·simp at b7
    ·simp at b7
   refine b9.mk (λaI=>?_) (λaI=>?_)
   ·refine a1.mk (λaQ=>?_) (λaQ=>?_)
    ·refine⟨_,_,.refl,?_,rfl,rfl⟩;have:mH lo hi=[63]:=by unfold mH;rw[aI,aQ];rfl
     rw[this];rfl
    ·refine bp.mk 1 (by decide) ?_;exact⟨1,next (by rw[aI,aQ];rfl),.refl,ei,.nil⟩
   ·refine bp.mk 1 (by decide) ?_;exact⟨1,next (by rw[aI];rfl),.refl,ei,.nil⟩
  |1,_=>
   refine a1.mk (λ_=>?_) (λh=>by simp at h);refine eo.mk 1 rfl (by decide) ?_;have next:(decide ((0:Int)=lo)&&decide (-1=hi))=false->(((1+1:Nat)<=3/\(1<=(1+1:Nat)->(decide ((0:Int)=lo)&&decide (1=hi))=false)/\(2<=(1+1:Nat)->(decide ((0:Int)=lo)&&decide (-1=hi))=false)/\(3<=(1+1:Nat)->(decide ((1:Int)=lo)&&decide (-1=hi))=false))/\3-(1+1)<3-1):=λh=>by
    refine⟨⟨by simp,λ_=>?_,λb7=>?_,λb7=>?_⟩,by simp⟩;·exact b3 (by decide)
    ·exact h
    ·simp at b7
   refine b9.mk (λaI=>?_) (λaI=>?_)
   ·refine a1.mk (λaQ=>?_) (λaQ=>?_)
    ·refine⟨_,_,.refl,?_,rfl,rfl⟩;have:mH lo hi=[42]:=by unfold mH;rw[b3 (by decide),aI,aQ];rfl
     rw[this];rfl
    ·refine bp.mk 2 (by decide) ?_;exact⟨2,next (by rw[aI,aQ];rfl),.refl,ei,.nil⟩
   ·refine bp.mk 2 (by decide) ?_;exact⟨2,next (by rw[aI];rfl),.refl,ei,.nil⟩
  |2,_=>
   refine a1.mk (λ_=>?_) (λh=>by simp at h);refine eo.mk 2 rfl (by decide) ?_;have next:(decide ((1:Int)=lo)&&decide (-1=hi))=false->(((2+1:Nat)<=3/\(1<=(2+1:Nat)->(decide ((0:Int)=lo)&&decide (1=hi))=false)/\(2<=(2+1:Nat)->(decide ((0:Int)=lo)&&decide (-1=hi))=false)/\(3<=(2+1:Nat)->(decide ((1:Int)=lo)&&decide (-1=hi))=false))/\3-(2+1)<3-2):=λh=>by
    refine⟨⟨by simp,λ_=>?_,λb7=>?_,λb7=>?_⟩,by simp⟩;·exact b3 (by decide)
    ·exact m2 (by decide)
    ·exact h
   refine b9.mk (λaI=>?_) (λaI=>?_)
   ·refine a1.mk (λaQ=>?_) (λaQ=>?_)
    ·refine⟨_,_,.refl,?_,rfl,rfl⟩;have:mH lo hi=[43]:=by unfold mH;rw[b3 (by decide),m2 (by decide),aI,aQ];rfl
     rw[this];rfl
    ·refine bp.mk 3 (by decide) ?_;exact⟨3,next (by rw[aI,aQ];rfl),.refl,ei,.nil⟩
   ·refine bp.mk 3 (by decide) ?_;exact⟨3,next (by rw[aI];rfl),.refl,ei,.nil⟩
  |3,_=>
   refine a1.mk (λh=>by simp at h) (λ_=>?_);have ax:=b3 (by decide);have aS:=m2 (by decide);have b5:=PU (by decide);have fE:mH lo hi=sK lo hi:=by unfold mH;rw[ax,aS,b5];rfl
   rw[fE];have uu:=IL lo;have BG:=IL hi.toNat;have uu:=wS lo;refine a1.mk (λh=>?_) (λh=>?_);·refine aY.mk [] [] _ (.refl _) (zw lo (by omega)) ?_;rintro v I' M' -⟨rfl,rfl,rfl⟩;refine eI.q3 (a:=[123]) (b:=ie lo) (by simp;omega) ?_;refine eI.q3 (a:=[123]++ie lo) (b:=[125]) (by simp;omega) ?_;refine⟨_,_,.refl,?_,rfl,rfl⟩;rw[sK,h];rfl
   ·refine a1.mk (λk=>?_) (λk=>?_)
    ·refine aY.mk [] [] _ (.refl _) (zw lo (by omega)) ?_;rintro v I' M' -⟨rfl,rfl,rfl⟩;refine eI.q3 (a:=[123]) (b:=ie lo) (by simp;omega) ?_;refine eI.q3 (a:=[123]++ie lo) (b:=[44,125]) (by simp;omega) ?_;refine⟨_,_,.refl,?_,rfl,rfl⟩;rw[sK,h,k];rfl
    ·refine aY.mk [] [] _ (.refl _) (zw lo (by omega)) ?_;rintro v I' M' -⟨rfl,rfl,rfl⟩;have aj:hi≠-1:=by simpa using k
     obtain⟨aF,rfl⟩:=ob (show 0<=hi by omega);have BG:=wS aF;refine eI.q3 (a:=[123]) (b:=ie lo) (by simp;omega) ?_;refine eI.q3 (a:=[123]++ie lo) (b:=[44]) (by simp;omega) ?_;refine aY.mk [] [] _ (.refl _) (zw aF (by omega)) ?_;rintro v I' M' -⟨rfl,rfl,rfl⟩;refine eI.q3 (a:=[123]++ie lo++[44]) (b:=ie aF) (by simp;omega) ?_;refine eI.q3 (a:=[123]++ie lo++[44]++ie aF) (b:=[125]) (by simp;omega) ?_;refine⟨_,_,.refl,?_,rfl,rfl⟩;rw[sK,h,k];rfl
def nt:List (List UInt8):=[[],[],[],[],[],[],[],[],[],[],[],[],[],[32],[],[],[32,47,32],[],[],[],[],[38],[],[],[33],[],[],[60],[],[62]]
def lN(j:Nat):List UInt8:=nt.getD j []
def w8(I:aG):Prop:=∃ T ah,I 1=some (.cells (nt.map λl=>Value.string (strOf l)).toArray T ah)
def w8.rd(h:w8 I)(M:List aC){i j:Nat}(ap:i+j<30):cx I M ((Addr.add ⟨1,0,none⟩ i).add j) 1 [.string (strOf (lN (i+j)))]:=by
 obtain⟨T,ah,h⟩:=h;rw[q0,cY _ rfl];refine⟨rfl,_,T,ah,.inl h,?_,rfl⟩;have U:i+j<(nt.map λl=>Value.string (strOf l)).length:=by simp[nt];omega
 have aa:i+j<nt.length:=by simp[nt];omega
 simp only[dd];rw[fe U,pC,pE];simp[lN,c1,aa]
def w9(j:Nat):(lN j).length<=3:=by
 by_cases h:j<30
 ·have:∀ j:Fin 30,(lN j.val).length<=3:=by decide
  exact this ⟨j,h⟩
 ·have:nt.length<=j:=by simp[nt];omega
  simp[lN,c1,this]
def k4(deb:List Int)(d:aH):List UInt8:=
 bif decide (d.k=0)||decide (d.k=2)then wY d.t else
 bif decide (d.k=1)then q1 deb d.dY d.s1 d.s2 d.gx else
 bif decide (d.k=3)then d.t.data.toList else
 bif decide (d.k=9)then lN 27++d.t.data.toList++[58,32]else lN (d.k.toNat*3)
def jK(d:aH):List UInt8:=bif decide (d.k=6)then mH d.lo.toNat d.hi else lN (d.k.toNat*3+2)
def PV(s:ByteArray):strOf s.data.toList=s:=uk (by simp[strOf])
def CO(aB:k1 I)(aK:CN I)(zD:w8 I)(ao:d.ok I)(az:zC d):Spec Tryz.prog 210 [d.val] I [] λr I' M'=>r=.string (strOf (jK d))/\I'=I/\M'=[]:=by
 refine cB [] a8 Tryz.func210 rfl rfl rfl ?_;intro B aD;refine a1.mk (λh=>?_) (λh=>?_)
 ·obtain⟨aI,aQ,bG⟩:=az.w6 (by simpa using h);have ax:d.lo=((d.lo.toNat:Nat):Int):=by omega
  have h3:=PT aB aK d.lo.toNat d.hi (by omega) (by omega);rw[<-ax]at h3;refine aY.mk [] [] _ (.refl _) h3 ?_;rintro v I' M' -⟨rfl,rfl,rfl⟩;refine⟨_,_,.refl,?_,rfl,rfl⟩;simp only[jK,h];rfl
 ·have aj:=ao.k;have uo:=az.k;refine eo.mk d.k.toNat (by omega) (by omega) ?_;refine ba.mk _ (zD.rd _ (by show d.k.toNat*3+2<30;omega)) ?_;refine⟨_,_,.refl,?_,rfl,rfl⟩;simp only[jK,h];rfl
def IM(sD:lL I deb)(zD:w8 I)(ao:d.ok I)(az:zC d):Spec Tryz.prog 208 [d.val] I []
  λr I' M'=>r=.string (strOf (k4 deb d))/\(∀ b o,I b=some o->I' b=some o)/\M'=[]:=by
 refine cB [] a8 Tryz.func208 rfl rfl rfl ?_;intro B aD;have aj:=ao.k;have uo:=az.k;have aq:=az.t;have lit:(decide (d.k=0)||decide (d.k=2))=true->k4 deb d=wY d.t:=λh=>by simp only[k4,h];rfl
 refine a1.mk (λU=>?_) (λU=>?_)
 ·refine a1.mk (λ_=>?_) (λh=>by rw[U]at h;cases h);refine aY.mk [] [] _ (.refl _) (IG d.t (by omega)) ?_;rintro v I' M' -⟨rfl,rfl,rfl⟩;refine⟨_,_,.refl,?_,λ_ _ h=>h,rfl⟩;rw[lit (by rw[U];rfl)]
 ·refine a1.mk (λaa=>?_) (λaa=>?_)
  ·refine aY.mk [] [] _ (.refl _) (IG d.t (by omega)) ?_;rintro v I' M' -⟨rfl,rfl,rfl⟩;refine⟨_,_,.refl,?_,λ_ _ h=>h,rfl⟩;rw[lit (by rw[aa];simp)]
  ·refine a1.mk (λak=>?_) (λak=>?_)
   ·refine aY.mk [] [] _ (.refl _) (PO sD (a:=d.dY) (b:=d.s1) (c:=d.s2) (d:=d.gx) (λx ab=>by
     simp only[cU,List.not_mem_nil,or_false]at ab;rcases ab with rfl | rfl | rfl | rfl;·exact ao.dY
     ·exact ao.s1
     ·exact ao.s2
     ·exact ao.gx)) ?_
    rintro v I' M' -⟨rfl,a7,rfl⟩;refine⟨_,_,.refl,?_,a7,rfl⟩;simp only[k4,U,aa,ak];rfl
   ·refine a1.mk (λaL=>?_) (λaL=>?_)
    ·refine⟨_,_,.refl,?_,λ_ _ h=>h,rfl⟩;simp only[k4,U,aa,ak,aL];rw[<-PV d.t];rfl
    ·refine a1.mk (λbe=>?_) (λbe=>?_)
     ·have PW:d.k=9:=by simpa using be
      refine dt.draw a8 rfl rfl rfl ?_;refine eo.mk 9 PW (by decide) ?_;refine ba.mk _ (zD.rd _ (by decide)) ?_;have e6:(strOf (lN 27)).size=1:=by decide
      refine eI.concat (a:=strOf (lN 27)) (b:=d.t) (by omega) ?_;refine eI.concat (a:=strOf (lN 27)++d.t) (b:=strOf [58,32]) (by rw[zz];show _+2<=_;omega) ?_;refine⟨_,_,.refl,?_,λ_ _ h=>h,rfl⟩;simp only[k4,U,aa,ak,aL,be];refine congrArg Value.string (uk ?_);simp[strOf]
     ·refine eo.mk d.k.toNat (by omega) (by omega) ?_;refine ba.mk _ (zD.rd _ (by show d.k.toNat*3+0<30;omega)) ?_;refine⟨_,_,.refl,?_,λ_ _ h=>h,rfl⟩;simp only[k4,U,aa,ak,aL,be];rfl
def hk(ae:List aH)(k:Int):Int:=(ae.map (·.k)).getD k.toNat 0
def paren(w:Bool)(s:List UInt8):List UInt8:=(bif w then [40]else [])++(s++(bif w then [41]else []))
def nu(sep:List UInt8)(f:Int->List UInt8):Bool->List Int->List UInt8
 |_,[]=>[]| b,k::ks=>(bif b then sep else [])++(f k++nu sep f true ks)
def uv(d:aH):List UInt8:=lN (d.k.toNat*3+1)
def uw(deb:List Int)(ae:List aH)(d:aH)(g:Int->List UInt8):List UInt8:=
 k4 deb d++(nu (uv d) (λk=>paren (ew d.k (hk ae k)) (g k)) false d.kids++jK d)
def gz(deb:List Int)(ae:List aH):Int->List UInt8:=qR [] (uw deb ae) ae
def ij(deb:List Int)(t:cc):List UInt8:=bif right t then gz deb t.ae t.root else []
def IN{sep:List UInt8}{f g:Int->List UInt8}:∀ {ks:List Int} {b:Bool},(∀ k∈ks,f k=g k)->nu sep f b ks=nu sep g b ks
 |[],b,_=>rfl| k::ks,b,h=>by unfold nu;rw[h k (by simp),IN λx ab=>h x (by simp[ab])]
def IP(al:right t=true){j:Nat}(ap:j<t.ae.length):gz deb t.ae j=uw deb t.ae t.ae[j] (gz deb t.ae):=by refine Ie (λd g dA h=>?_) al ap;unfold uw;rw[IN λk aj=>by rw[h k aj]]
def PX(w:Bool)(s:List UInt8):(paren w s).length<=s.length+2:=by cases w<;>simp[paren]
def IQ{sep:List UInt8}{f:Int->List UInt8}(an:sep.length<=3){g:Int->Nat}(az:∀ k,(f k).length+3<=g k):∀ {ks:List Int} {b:Bool},(nu sep f b ks).length<=jb g ks
 |[],b=>by simp[nu,jb]
 |k::ks,b=>by
  have U:=IQ an az (ks:=ks) (b:=true);have aa:=az k;unfold nu;simp only[cP,jb,cC,jB]at U |-;cases b<;>simp<;>omega
def CP(deb:List Int)(az:zC d):(k4 deb d).length<=2400:=by
 have U:(wY d.t).length<=2+4*d.t.size:=by have:=wZ (ic · sH) 4 (λc=>wR c sH) d.t.data.toList;have aa:d.t.data.toList.length=d.t.size:=rfl;simp only[wY,cP,c8,gP];omega
 have aa:=PN deb d.dY d.s1 d.s2 d.gx;have ak:=az.t;have aL:=w9 27;have be:=w9 (d.k.toNat*3);have bT:d.t.data.toList.length=d.t.size:=rfl;unfold k4;cases(decide (d.k=0)||decide (d.k=2))<;>cases decide (d.k=1)<;>cases decide (d.k=3)<;>cases decide (d.k=9)<;>simp only[bn,bj,cP,c8,gP]<;>omega
def zE(d:aH):(jK d).length<=7:=by
 have U:=PQ d.lo.toNat d.hi;have aa:=w9 (d.k.toNat*3+2);unfold jK;cases decide (d.k=6)<;>simp only[bn,bj]<;>omega
def CQ{α:Type}(c:Nat):∀ l:List α,(l.map λ_=>c).sum=c*l.length
 |[]=>by simp
 |x::l=>by rw[cC,jB,CQ c l,c8,Nat.mul_add];omega
def IR(al:right t=true):(gz deb t.ae t.root).length+5<=2412*t.ae.length:=by
 have h:=Il al (g:=λk=>(gz deb t.ae k).length+5) (c:=λ_=>2412) λj ap=>by rw[IP al ap];have U:=CP deb (IK (Im al ap));have aa:=zE t.ae[j];have ak:=IQ (sep:=uv t.ae[j]) (w9 _) (f:=λk=>paren (ew t.ae[j].k (hk t.ae k)) (gz deb t.ae k)) (g:=λk=>(gz deb t.ae k).length+5) (λk=>by have:=PX (ew t.ae[j].k (hk t.ae k)) (gz deb t.ae k);omega) (ks:=t.ae[j].kids) (b:=false);unfold uw;simp only[cP];omega
 rw[CQ]at h;exact h
def IS(deb:List Int)(t:cc):(ij deb t).length<=2412*t.ae.length:=by
 unfold ij;cases al:right t with
 |false=>simp| true=>have:=IR (deb:=deb) al;simp only[bn];omega
abbrev Open:=Nat×Nat×Bool
def ik(e:Open):List Value:=[.int .i64 e.1,.int .i64 e.2.1,.bool e.2.2]
def nodeAt(ae:List aH)(j:Nat):aH:=ae.getD j ⟨0,0,0,0,0,.empty,0,0,none,0,0,[]⟩
def CR(deb:List Int)(ae:List aH)(d:aH)(k:Int):List UInt8:=paren (ew d.k (hk ae k)) (gz deb ae k)
def jg(deb:List Int)(ae:List aH)(e:Open):List UInt8:=bif decide ((e.2.1:Int)=0)then(bif e.2.2 then [40]else [])++k4 deb (nodeAt ae e.1)else []
def nv(deb:List Int)(ae:List aH)(e:Open):List UInt8:=
 jg deb ae e++(nu (uv (nodeAt ae e.1)) (CR deb ae (nodeAt ae e.1)) (decide (0<(e.2.1:Int))) ((nodeAt ae e.1).kids.drop e.2.1)++(jK (nodeAt ae e.1)++(bif e.2.2 then [41]else [])))
def q4(ae:List aH):Int->Nat:=qR 0 (λd g=>2+jb g d.kids) ae
def iH(ae:List aH)(e:Open):Nat:=1+jb (q4 ae) ((nodeAt ae e.1).kids.drop e.2.1)
def ox(ae:List aH)(a3:List Open):Nat:=(a3.map (iH ae)).sum
def nw(deb:List Int)(ae:List aH)(a3:List Open):List UInt8:=a3.reverse.flatMap (nv deb ae)
def sL(deb:List Int)(ae:List aH)(a3:List Open)(e:Open):nw deb ae (a3++[e])=nv deb ae e++nw deb ae a3:=by simp[nw]
def lO(ae:List aH)(a3:List Open)(e:Open):ox ae (a3++[e])=ox ae a3+iH ae e:=by simp[ox]
def IT(ae:List aH):∀ a3:List Open,a3.length<=ox ae a3
 |[]=>by simp
 |e::a3=>by have:=IT ae a3;simp only[ox,cC,jB,c8,iH]at this |-;omega
def nx{ae:List aH}{j:Nat}(h:j<ae.length):nodeAt ae j=ae[j]:=by simp[nodeAt,c1,h]
def PY{g dA:Int->Nat}{ks:List Int}(h:∀ k∈ks,g k=dA k):jb g ks=jb dA ks:=by unfold jb;rw[ua h]
def IU(al:right t=true){j:Nat}(ap:j<t.ae.length):q4 t.ae j=2+jb (q4 t.ae) t.ae[j].kids:=
 Ie (λd g dA h=>by rw[PY h]) al ap
def PZ(al:right t=true):q4 t.ae t.root<=2*t.ae.length:=by
 have:=Il al (g:=q4 t.ae) (c:=λ_=>2) λj ap=>by rw[IU al ap];exact cK _
 rwa [CQ]at this
def IV(al:right t=true){j:Nat}(ap:j<t.ae.length)(w:Bool):nv deb t.ae (j,0,w)=paren w (gz deb t.ae j):=by rw[IP al ap];simp only[nv,jg,nx ap];cases w<;>simp[paren,uw,CR]<;>rfl
def IW(al:right t=true){j:Nat}(ap:j<t.ae.length)(w:Bool):iH t.ae (j,0,w)+1=q4 t.ae j:=by rw[IU al ap];simp[iH,nx ap];omega
def CS(al:right t=true){j i:Nat}(ap:j<t.ae.length)(hi:i<t.ae[j].kids.length) :
  nv deb t.ae (j,i,w)=jg deb t.ae (j,i,w)++((bif decide (0<(i:Int))then uv t.ae[j]else [])++(nv deb t.ae (t.ae[j].kids[i].toNat,0,ew t.ae[j].k (hk t.ae t.ae[j].kids[i]))++nv deb t.ae (j,i+1,w))):=by
 have aj:=ou al j ap _ (et hi);rw[IV al (by omega)];have ax:(((t.ae[j].kids[i].toNat:Nat):Int))=t.ae[j].kids[i]:=sj aj.1;rw[ax];have ao:=fe hi;simp only[nv,nx ap];rw[ao];have aS:jg deb t.ae (j,i+1,w)=[]:=by have:decide (((i+1:Nat):Int)=0)=false:=ef (by omega);simp only[jg,this,bj]
 have b5:decide (0<((i+1:Nat):Int))=true:=dP (by omega);rw[aS,b5];simp only[nu,CR,hc,lC]
def CT(al:right t=true){j i:Nat}(ap:j<t.ae.length){w':Bool}(hi:i<t.ae[j].kids.length):iH t.ae (j,i+1,w)+iH t.ae (t.ae[j].kids[i].toNat,0,w')+1=iH t.ae (j,i,w):=by
 have aj:=ou al j ap _ (et hi);have U:=IW al (j:=t.ae[j].kids[i].toNat) (by omega) w';have ax:(((t.ae[j].kids[i].toNat:Nat):Int))=t.ae[j].kids[i]:=sj aj.1;rw[ax]at U;have ao:=fe hi;have b5:iH t.ae (j,i,w)=1+jb (q4 t.ae) (t.ae[j].kids.drop i):=by simp[iH,nx ap]
 have ea:iH t.ae (j,i+1,w)=1+jb (q4 t.ae) (t.ae[j].kids.drop (i+1)):=by simp[iH,nx ap]
 rw[b5,ea,ao];simp only[jb,cC,jB];omega
def CU{j i:Nat}(ap:j<t.ae.length)(hi:t.ae[j].kids.length<=i):nv deb t.ae (j,i,w)=jg deb t.ae (j,i,w)++(jK t.ae[j]++(bif w then [41]else [])):=by simp only[nv,nx ap,iZ hi];rfl
def CV{d:Nat}{x:b0}(h:F d=x):dK F d x=F:=by
 funext t;unfold dK;cases e:Nat.beq t d with
 |false=>rfl| true=>have:=cb e;subst this;exact h.symm
def P0{d:Nat}{x:Option (List Value)}(h:C d=x):fs C d x=C:=by
 funext t;unfold fs;cases e:Nat.beq t d with
 |false=>rfl| true=>have:=cb e;subst this;exact h.symm
def zF:Code->Code
 | .scope c=>c
 | .seq a b=>match zF a with
  | .skip=>zF b| c=>c
 |_=>.skip
def IX(c:Code)(l:Nat):Code:=(findLabel c l).getD .skip
def df.q0{b i j:Nat}{K:List aC->Prop}(pre post:List aC)(cs:Array Value)(T:Nat)(aZ:M=pre++⟨b,.cells cs T (0,0)⟩::post)(ag:i+j+vs.length<=cs.size)(U:eP vs=true)
  (h:K (pre++⟨b,.cells (bt cs.toList (i+j) vs).toArray T (0,0)⟩::post)):df M (((⟨b,0,none⟩:Addr).add i).add j) vs K:=by
 rw[Go.V.q0];refine df.add pre post cs T aZ (by omega) U ?_;rw[dd];exact h
structure fH(I:aG)(deb:List Int):Prop where
 c:k1 I
 p:CN I
 s:w8 I
 d:lL I deb
def CW(a b c:α)(L:List α):(a::b::(L++[c])).Perm ([b,c]++(a::L)):=
 (List.Perm.swap b a _).trans (((((List.perm_append_singleton c L).cons a)).trans (List.Perm.swap c a L)).cons b)
def CX(pre:List Value)(a b c z:Value)(rest:List Value):bt (pre++([a,b,c]++rest)) (pre.length+1) [z]=pre++([a,z,c]++rest):=by have:=ID pre a b z (c::rest) _ rfl;exact this
def fH.mono(h:fH I deb)(a7:∀ b o,I b=some o->I' b=some o):fH I' deb:=by obtain⟨⟨P1,f1,U⟩,⟨sM,f2,aa⟩,⟨P2,f3,ak⟩,⟨aL,be,CY,f4,bT⟩⟩:=h;exact⟨⟨P1,f1,a7 _ _ U⟩,⟨sM,f2,a7 _ _ aa⟩,⟨P2,f3,a7 _ _ ak⟩,⟨aL,be,CY,f4,a7 _ _ bT⟩⟩
def jL(a3:List Open):List Value:=a3.flatMap ik
def xa(a3:List Open):(jL a3).length=a3.length*3:=hf ik 3 (λ_=>rfl) a3
def sN(a3:List Open)(e:Open):jL (a3++[e])=jL a3++[.int .i64 e.1,.int .i64 e.2.1,.bool e.2.2]:=by simp[jL,ik]
abbrev xb:=dj×bh×List Open×aG
def IY(t:cc)(g:Nat)(x:xb):sc:={ b8:=[(1,.ref 1 0),(3,.val (ptr g)),(4,.val x.2.1.val)],cl:=[(1,t.cells)],dL:=x.2.2.2,fg:=x.2.1.bF 263++x.1.M g }
structure zG(cg:aG)(deb:List Int)(t:cc)(x:xb):Prop where
 le:∀ b o,cg b=some o->x.2.2.2 b=some o
 ok:x.1.ok
 os:x.2.1.ok 3 (jL x.2.2.1)
 ne:x.2.2.1≠[]
 Xz:∀ e∈x.2.2.1,e.1<t.ae.length
 XA:x.1.bz++nw deb t.ae x.2.2.1=gz deb t.ae t.root
 zH:ox t.ae x.2.2.1<=2*t.ae.length
set_option maxRecDepth 4000 in
def IZ{cg:aG}(bJ:fH cg deb)(aq:t.ok cg)(al:right t=true)(aF:t.n<=1024){g:Nat}{p:Nat->Nat×xb->Prop}(x:xb)(ab:zG cg deb t x)(aK:∀ y,zG cg deb t y->ox t.ae y.2.2.1<ox t.ae x.2.2.1->p 0 (g,y))(B:Nat)(aD:World)(G:Fr)(sO:b6) :
  V ⟨Tryz.prog,su,[3],Tryz.f187.ntmps,B,aD,cg,[],none⟩ (IX (zF (Tryz.f187.body.getD .skip)) 0) (dK (dK (dK G 4 (.val x.2.1.val)) 3 (.val (ptr g))) 1 (.ref 1 0)) (fs sO 1 (some t.cells)) x.2.2.2 (x.2.1.bF 263++x.1.M g)
   (B0 (λl=>mi [] (λy=>IY t y.1 y.2) (p l)) (qy ⟨Tryz.prog,su,[3],Tryz.f187.ntmps,B,aD,cg,[],none⟩ Tryz.f187.results.toList
    (λr I' M'=>r=.string (strOf (gz deb t.ae t.root))/\(∀ b o,cg b=some o->I' b=some o)/\M'=[]))):=by
 obtain⟨x,⟨sG,n,cT,cur⟩,a3,ct⟩:=x;obtain⟨hle,xc,db,br,fA,iI,I0⟩:=ab;simp only at hle xc db br fA iI I0 aK |-;have sP:=bJ.mono hle;have CZ:=aq.mono hle;have kT:=aq.n;obtain⟨eM,⟨j,i,w⟩,rfl⟩:∃ eM e,a3=eM++[e]:=by
  rcases List.eq_nil_or_concat a3 with h | ⟨r,e,h⟩;·exact(br h).elim
  ·exact⟨r,e,by simpa using h⟩
 have jM:eM.length+1=n:=by have U:=db.len;rw[xa]at U;simp at U;omega
 have ap:j<t.ae.length:=fA (j,i,w) (by simp);have iB:j<t.n:=by omega
 cases sG with
 |none=>have:=(db.nil rfl).1;simp only at this;omega| some bC=>
 obtain⟨dM,iF,hG,ey⟩:=db.cap bC rfl;simp only at dM iF hG ey;have fm:(jL eM).length=(n-1)*3:=by rw[xa];omega
 obtain⟨rest,ih⟩:∃ rest,cur=jL eM++([.int .i64 j,.int .i64 i,.bool w]++rest):=by refine⟨cur.drop (n*3),?_⟩;have aa:=qH (n*3) cur;rw[ey,sN,hc]at aa;exact aa.symm
 have P3:cur[(n-1)*3+0]?=some (.int .i64 j):=by rw[ih,<-fm,j8 (by omega)];simp
 have lP:cur[(n-1)*3+1]?=some (.int .i64 i):=by rw[ih,<-fm,j8 (by omega)];simp
 have fI:cur[(n-1)*3+2]?=some (.bool w):=by rw[ih,<-fm,j8 (by omega)];simp
 have xd:=IR (deb:=deb) al;have jJ:x.bz.length<=2412*t.ae.length:=by have:=congrArg List.length iI;rw[cP]at this;omega
 have I1:=IT t.ae (eM++[(j,i,w)]);simp only[cP,c8,gP]at I1;have gn:=CZ.ae t.ae[j] (et ap);have gJ:=gn.kn;have kI:=IK (Im al ap);obtain⟨ad,dH,cj⟩:=CZ.aV.row aH.da iB ap;rw[sL]at iI;rw[lO]at I0 aK I1;have sQ:IntKind.i64.wrap ((n:Int)-1)=((n-1:Nat):Int):=by rw[wrap_i64 ⟨by omega,by omega⟩];omega
 refine bp.mk (((n-1:Nat)):Int) sQ ?_;refine c2.mk ⟨bC,0,none⟩ (n-1) rfl rfl (by show n-1<n;omega) ?_;refine dt.draw a8 rfl rfl rfl ?_;refine ba.mk [.int .i64 j] (ig (b:=bC) (cs:=cur) (T:=263) (by simp[bh.bF]) P3) ?_;refine c2.mk ad j dH rfl iB ?_;refine ba.mk _ (cj _) ?_;refine eA.mk λcE XB XC=>?_;refine df.mk [] (⟨bC,.cells cur.toArray 263 (0,0)⟩::x.M g) _ _ rfl rfl (bk rfl) rfl ?_;refine ba.mk [.int .i64 i] (ig (b:=bC) (cs:=cur) (T:=263) (by simp[bh.bF]) lP) ?_;refine a1.mk (λU=>?_) (λU=>?_)
 ·refine ba.mk [.bool w] (ig (b:=bC) (cs:=cur) (T:=263) (by simp[bh.bF]) fI) ?_;refine a1.mk (λaa=>?_) (λaa=>?_)
  ·refine aY.mk (x.M g) [⟨cE,.cells t.ae[j].cells.toArray 72 (0,0)⟩,⟨bC,.cells cur.toArray 263 (0,0)⟩] _ (gk (l₁:=[_,_])) (jG g xc 40 (by omega)) ?_;rintro v du cQ -⟨rfl,rfl,y,aE,ev,rfl⟩;have Iv:y.bz.length<=2412*t.ae.length+1:=by rw[ev];simp;omega
   refine ba.mk _ (dk (T:=72) (b:=cE) (cs:=t.ae[j].cells) (k:=0) (n:=9) (by simp) (bk rfl)) ?_;refine aY.mk [] (y.M g++[⟨cE,.cells t.ae[j].cells.toArray 72 (0,0)⟩,⟨bC,.cells cur.toArray 263 (0,0)⟩]) _ (by simp) (IM sP.d sP.s gn kI) ?_;rintro v du cQ -⟨rfl,hK,rfl⟩;have ke:∀ b o,cg b=some o->du b=some o:=λb o h=>hK _ _ (hle _ _ h);have zI:=CP deb kI;refine aY.mk (y.M g) [⟨cE,.cells t.ae[j].cells.toArray 72 (0,0)⟩,⟨bC,.cells cur.toArray 263 (0,0)⟩] _ (by simp) (nm g aE _ (by show _+(k4 deb t.ae[j]).length<=_;omega)) ?_;rintro v iE sr -⟨rfl,rfl,u,hu,pJ,rfl⟩;have lQ:u.bz=x.bz++jg deb t.ae (j,i,w):=by rw[pJ,ev];simp only[jg,U,aa,nx ap,bn,bj];simp[strOf]
   have IJ:u.bz.length<=2412*t.ae.length+2401:=by rw[lQ,cP];simp only[jg,U,aa,nx ap,bn,bj,cP,c8,gP];omega
   have kf:=bJ.mono ke;have oy:=aq.mono ke;have k5:=oy.ae t.ae[j] (et ap);have xe:∀ {k m:Nat},k+m<=9->cx iE (u.M g++[⟨cE,.cells t.ae[j].cells.toArray 72 (0,0)⟩,⟨bC,.cells cur.toArray 263 (0,0)⟩]) ((⟨cE,0,none⟩:Addr).add k) m ((t.ae[j].cells.drop k).take m):=λh=>dk (T:=72) (by simp) h;refine dt.draw a8 rfl rfl rfl ?_;refine ba.mk [.int .i64 i] (ig (b:=bC) (cs:=cur) (T:=263) (by simp[bh.bF]) lP) ?_;refine ba.mk _ (xe (by decide)) ?_;refine a1.mk (λaj=>?_) (λaj=>?_)
   ·have ek:i<t.ae[j].kn:=by simpa using aj
    have k6:i<t.ae[j].kids.length:=by omega
    obtain⟨lH,lI,lJ⟩:=k5.aV.one ek k6;have fP:=ou al j ap _ (et k6);obtain⟨q,q5⟩:=ob fP.1;have gr:q<t.ae.length:=by omega
    have jh:q<t.n:=by omega
    obtain⟨k7,pL,pM⟩:=oy.aV.row aH.da jh gr;have pN:∀ M,cx iE M ((k7.add (q*9)).add 0) 1 [.int .u8 t.ae[q].k]:=λM=>(pM M).part (k:=0) (m:=1) (by decide);have ny:hk t.ae ((q:Nat):Int)=t.ae[q].k:=by simp[hk,c1,gr]
    have fo:=CS (deb:=deb) al ap (w:=w) k6;have q6:=CT al ap (w:=w) (w':=ew t.ae[j].k t.ae[q].k) k6;rw[q5]at fo q6;simp only[zA,ll]at fo q6;rw[ny]at fo;have d':IntKind.i64.wrap ((i:Int)+1)=((i+1:Nat):Int):=by have:=k5.aV.cap;rw[wrap_i64 ⟨by omega,by omega⟩];omega
    have cX:bt cur ((n-1)*3+1) [.int .i64 ((i+1:Nat):Int)]=jL eM++([.int .i64 j,.int .i64 ((i+1:Nat):Int),.bool w]++rest):=by rw[ih,<-fm];exact CX _ _ _ _ _ _
    have xf:bh.ok ⟨some bC,n,cT,bt cur ((n-1)*3+1) [.int .i64 ((i+1:Nat):Int)]⟩ 3 (jL (eM++[(j,i+1,w)])):=by
     rw[cX,sN];refine⟨by simp only[cP,c8,gP];omega,(λh=>by cases h),λbG _=>⟨?_,iF,hG,?_⟩⟩;·simp only;rw[<-dM,ih];simp
     ·simp only;rw[<-hc];refine nc ?_;simp only[cP,c8,gP];omega
    refine ba.mk [.int .i64 i] (ig (b:=bC) (cs:=cur) (T:=263) (by simp[bh.bF]) lP) ?_;refine a1.mk (λa2=>by simp at U a2;omega) (λa2=>?_);refine dt.draw a8 rfl rfl rfl ?_;refine ba.mk _ (dk (T:=72) (b:=cE) (cs:=t.ae[j].cells) (k:=8) (n:=1) (by simp) (bk rfl)) ?_;refine ba.mk [.int .i64 i] (ig (b:=bC) (cs:=cur) (T:=263) (by simp[bh.bF]) lP) ?_;refine c2.mk lH i lI rfl ek ?_;refine ba.mk [.int .i64 (q:Nat)] (by have eE:=lJ;rw[q5]at eE;exact eE _) ?_;refine ba.mk [.int .i64 i] (ig (b:=bC) (cs:=cur) (T:=263) (by simp[bh.bF]) lP) ?_;refine bp.mk ((i+1:Nat):Int) d' ?_;refine df.q0 (u.M g++[⟨cE,.cells t.ae[j].cells.toArray 72 (0,0)⟩]) [] cur.toArray 263 (by simp[bh.bF]) ?_ rfl ?_;·simp only[mU];show(n-1)*3+1+1<=_;omega
    refine dt.draw a8 rfl rfl rfl ?_;refine ba.mk [.int .u8 t.ae[j].k] (dk (T:=72) (b:=cE) (cs:=t.ae[j].cells) (k:=0) (n:=1) (by simp) (bk rfl)) ?_;refine c2.mk k7 q pL rfl jh ?_;refine ba.mk [.int .u8 t.ae[q].k] (pN _) ?_;refine iX.mk _ (Cx t.ae[j].k t.ae[q].k) ?_;rintro v xg lE -⟨rfl,rfl,rfl⟩;refine eA.mk λiJ C0 C1=>?_;refine a9.append a8 rfl (by simp) (e:=263) rfl rfl rfl ⟨some bC,n,cT,bt cur ((n-1)*3+1) [.int .i64 ((i+1:Nat):Int)]⟩ (xs:=jL (eM++[(j,i+1,w)])) xf rfl (m:=1) rfl (news:=ik (q,0,ew t.ae[j].k t.ae[q].k)) (by decide) (dk (b:=iJ) (cs:=ik (q,0,ew t.ae[j].k t.ae[q].k)) (k:=0) (n:=3) (T:=263) (.head _) (bk rfl)) rfl (Mr:=⟨iJ,.cells (ik (q,0,ew t.ae[j].k t.ae[q].k)).toArray 263 (0,0)⟩::(u.M g++[⟨cE,.cells t.ae[j].cells.toArray 72 (0,0)⟩])) (by exact gk (l₁:=(⟨iJ,.cells (ik (q,0,ew t.ae[j].k t.ae[q].k)).toArray 263 (0,0)⟩:aC)::(u.M g++[⟨cE,.cells t.ae[j].cells.toArray 72 (0,0)⟩])) (l₂:=[⟨bC,.cells (bt cur ((n-1)*3+1) [.int .i64 ((i+1:Nat):Int)]).toArray 263 (0,0)⟩])) (by show n+1<=_;simp only[maxLen];omega) (by show(n+1)*24<=_;omega) ?_;intro dA c' fZ eL eV fW g4;refine⟨(g,u,⟨some dA,n+1,c',fZ⟩,eM++[(j,i+1,w)]++[(q,0,ew t.ae[j].k t.ae[q].k)],_),aK _ ⟨ke,hu,⟨?_,(λh=>by cases h),λbG _=>⟨eL,eV,fW,?_⟩⟩,by simp,?_,?_,?_⟩ ?_,.perm (M1:=[⟨iJ,.cells (ik (q,0,ew t.ae[j].k t.ae[q].k)).toArray 263 (0,0)⟩,⟨cE,.cells t.ae[j].cells.toArray 72 (0,0)⟩]++(⟨dA,.cells fZ.toArray 263 (0,0)⟩::u.M g)) (CW _ _ _ _) (.sub (jA _ _) .refl),lx,.cons rfl .nil⟩;·show _=(n+1)*3;rw[xa];simp;omega
    ·show fZ.take ((n+1)*3)=_;rw[sN (eM++[(j,i+1,w)])];exact g4
    ·intro e he;simp only[c9,ju]at he;rcases he with(he | rfl) | rfl
     ·exact fA e (by simp[he])
     ·exact ap
     ·exact gr
    ·simp only;rw[sL,sL,lQ,<-iI,fo];rw[show decide (0<(i:Int))=false from a2];simp
    ·simp only;rw[lO,lO];omega
    ·simp only;rw[lO,lO];omega
   ·have ek:t.ae[j].kids.length<=i:=by simp at aj;omega
    have fo:=CU (deb:=deb) ap (w:=w) ek;have mu:=zE t.ae[j];refine ba.mk _ (dk (T:=72) (b:=cE) (cs:=t.ae[j].cells) (k:=0) (n:=9) (by simp) (bk rfl)) ?_;refine aY.mk [] (u.M g++[⟨cE,.cells t.ae[j].cells.toArray 72 (0,0)⟩,⟨bC,.cells cur.toArray 263 (0,0)⟩]) _ (.refl _) (CO kf.c kf.p kf.s k5 kI) ?_;rintro v xg lE -⟨rfl,rfl,rfl⟩;refine aY.mk (u.M g) [⟨cE,.cells t.ae[j].cells.toArray 72 (0,0)⟩,⟨bC,.cells cur.toArray 263 (0,0)⟩] _ (by simp) (nm g hu _ (by show _+(jK t.ae[j]).length<=_;omega)) ?_;rintro v zJ C2 -⟨rfl,rfl,a,aN,en,rfl⟩;have I2:a.bz.length<=2412*t.ae.length+2410:=by rw[en,cP];show _+(jK t.ae[j]).length<=_;omega
    refine ba.mk [.bool w] (ig (b:=bC) (cs:=cur) (T:=263) (by simp[bh.bF]) fI) ?_;refine a1.mk (λhw=>?_) (λhw=>?_)
    ·subst hw;refine aY.mk (a.M g) [⟨cE,.cells t.ae[j].cells.toArray 72 (0,0)⟩,⟨bC,.cells cur.toArray 263 (0,0)⟩] _ (by simp) (jG g aN 41 (by omega)) ?_;rintro v zK C3 -⟨rfl,rfl,c,aB,fE,rfl⟩;refine bp.mk (((n-1:Nat)):Int) sQ ?_;refine h0.mk 0 (n-1) rfl rfl (gq _) (by show n-1<=cT;omega) ?_;refine a1.mk (λa2=>?_) (λa2=>?_)
     ·have fQ:0<n-1:=by simp at a2;omega
      refine⟨(g,c,⟨some bC,n-1,cT,cur⟩,eM,_),aK _ ⟨ke,aB,⟨?_,(λh=>by cases h),λbG _=>⟨dM,by show n-1<=cT;omega,hG,?_⟩⟩,?_,λe he=>fA e (by simp[he]),?_,?_⟩ ?_,.perm (M1:=[⟨cE,.cells t.ae[j].cells.toArray 72 (0,0)⟩]++(⟨bC,.cells cur.toArray 263 (0,0)⟩::c.M g)) (gk (l₂:=[_,_])) (.sub (jA _ _) .refl),lx,.cons rfl .nil⟩;·exact fm
      ·show cur.take ((n-1)*3)=_;rw[ih,<-fm];exact nc rfl
      ·intro h;simp only at h;rw[h]at jM;simp at jM;omega
      ·simp only;rw[fE,en,lQ,<-iI,fo];simp[strOf]
      ·simp only;omega
      ·simp only[iH];omega
     ·have fQ:n-1=0:=by simp at a2;omega
      have nz:eM=[]:=h7 (by omega);have ji:c.bz=gz deb t.ae t.root:=by rw[fE,en,lQ,<-iI,fo,nz];simp[nw,strOf]
      refine aY.mk (c.M g) [⟨cE,.cells t.ae[j].cells.toArray 72 (0,0)⟩,⟨bC,.cells cur.toArray 263 (0,0)⟩] _ (by simp) (pI g aB (by rw[ji];omega)) ?_;rintro v sR ux -⟨rfl,rfl,rfl⟩;refine⟨_,_,.sub (fa _) .refl,?_,ke,rfl⟩;rw[ji];rfl
    ·subst hw;refine bp.mk (((n-1:Nat)):Int) sQ ?_;refine h0.mk 0 (n-1) rfl rfl (gq _) (by show n-1<=cT;omega) ?_;refine a1.mk (λa2=>?_) (λa2=>?_)
     ·have fQ:0<n-1:=by simp at a2;omega
      refine⟨(g,a,⟨some bC,n-1,cT,cur⟩,eM,_),aK _ ⟨ke,aN,⟨?_,(λh=>by cases h),λbG _=>⟨dM,by show n-1<=cT;omega,hG,?_⟩⟩,?_,λe he=>fA e (by simp[he]),?_,?_⟩ ?_,.perm (M1:=[⟨cE,.cells t.ae[j].cells.toArray 72 (0,0)⟩]++(⟨bC,.cells cur.toArray 263 (0,0)⟩::a.M g)) (gk (l₂:=[_,_])) (.sub (jA _ _) .refl),lx,.cons rfl .nil⟩;·exact fm
      ·show cur.take ((n-1)*3)=_;rw[ih,<-fm];exact nc rfl
      ·intro h;simp only at h;rw[h]at jM;simp at jM;omega
      ·simp only;rw[en,lQ,<-iI,fo];simp[strOf]
      ·simp only;omega
      ·simp only[iH];omega
     ·have fQ:n-1=0:=by simp at a2;omega
      have nz:eM=[]:=h7 (by omega);have ji:a.bz=gz deb t.ae t.root:=by rw[en,lQ,<-iI,fo,nz];simp[nw,strOf]
      refine aY.mk (a.M g) [⟨cE,.cells t.ae[j].cells.toArray 72 (0,0)⟩,⟨bC,.cells cur.toArray 263 (0,0)⟩] _ (by simp) (pI g aN (by rw[ji];omega)) ?_;rintro v sR ux -⟨rfl,rfl,rfl⟩;refine⟨_,_,.sub (fa _) .refl,?_,ke,rfl⟩;rw[ji];rfl
  ·refine ba.mk _ (dk (T:=72) (b:=cE) (cs:=t.ae[j].cells) (k:=0) (n:=9) (.head _) (bk rfl)) ?_;refine aY.mk [] (⟨cE,.cells t.ae[j].cells.toArray 72 (0,0)⟩::⟨bC,.cells cur.toArray 263 (0,0)⟩::x.M g) _ (.refl _) (IM sP.d sP.s gn kI) ?_;rintro v du cQ -⟨rfl,hK,rfl⟩;have ke:∀ b o,cg b=some o->du b=some o:=λb o h=>hK _ _ (hle _ _ h);have zI:=CP deb kI;refine aY.mk (x.M g) [⟨cE,.cells t.ae[j].cells.toArray 72 (0,0)⟩,⟨bC,.cells cur.toArray 263 (0,0)⟩] _ (gk (l₁:=[_,_])) (nm g xc _ (by show _+(k4 deb t.ae[j]).length<=_;omega)) ?_;rintro v iE sr -⟨rfl,rfl,u,hu,pJ,rfl⟩;have lQ:u.bz=x.bz++jg deb t.ae (j,i,w):=by rw[pJ];simp only[jg,U,aa,nx ap,bn,bj];simp[strOf]
   have IJ:u.bz.length<=2412*t.ae.length+2401:=by rw[lQ,cP];simp only[jg,U,aa,nx ap,bn,bj,cP,c8,gP];omega
   have kf:=bJ.mono ke;have oy:=aq.mono ke;have k5:=oy.ae t.ae[j] (et ap);have xe:∀ {k m:Nat},k+m<=9->cx iE (u.M g++[⟨cE,.cells t.ae[j].cells.toArray 72 (0,0)⟩,⟨bC,.cells cur.toArray 263 (0,0)⟩]) ((⟨cE,0,none⟩:Addr).add k) m ((t.ae[j].cells.drop k).take m):=λh=>dk (T:=72) (by simp) h;refine dt.draw a8 rfl rfl rfl ?_;refine ba.mk [.int .i64 i] (ig (b:=bC) (cs:=cur) (T:=263) (by simp[bh.bF]) lP) ?_;refine ba.mk _ (xe (by decide)) ?_;refine a1.mk (λaj=>?_) (λaj=>?_)
   ·have ek:i<t.ae[j].kn:=by simpa using aj
    have k6:i<t.ae[j].kids.length:=by omega
    obtain⟨lH,lI,lJ⟩:=k5.aV.one ek k6;have fP:=ou al j ap _ (et k6);obtain⟨q,q5⟩:=ob fP.1;have gr:q<t.ae.length:=by omega
    have jh:q<t.n:=by omega
    obtain⟨k7,pL,pM⟩:=oy.aV.row aH.da jh gr;have pN:∀ M,cx iE M ((k7.add (q*9)).add 0) 1 [.int .u8 t.ae[q].k]:=λM=>(pM M).part (k:=0) (m:=1) (by decide);have ny:hk t.ae ((q:Nat):Int)=t.ae[q].k:=by simp[hk,c1,gr]
    have fo:=CS (deb:=deb) al ap (w:=w) k6;have q6:=CT al ap (w:=w) (w':=ew t.ae[j].k t.ae[q].k) k6;rw[q5]at fo q6;simp only[zA,ll]at fo q6;rw[ny]at fo;have d':IntKind.i64.wrap ((i:Int)+1)=((i+1:Nat):Int):=by have:=k5.aV.cap;rw[wrap_i64 ⟨by omega,by omega⟩];omega
    have cX:bt cur ((n-1)*3+1) [.int .i64 ((i+1:Nat):Int)]=jL eM++([.int .i64 j,.int .i64 ((i+1:Nat):Int),.bool w]++rest):=by rw[ih,<-fm];exact CX _ _ _ _ _ _
    have xf:bh.ok ⟨some bC,n,cT,bt cur ((n-1)*3+1) [.int .i64 ((i+1:Nat):Int)]⟩ 3 (jL (eM++[(j,i+1,w)])):=by
     rw[cX,sN];refine⟨by simp only[cP,c8,gP];omega,(λh=>by cases h),λbG _=>⟨?_,iF,hG,?_⟩⟩;·simp only;rw[<-dM,ih];simp
     ·simp only;rw[<-hc];refine nc ?_;simp only[cP,c8,gP];omega
    refine ba.mk [.int .i64 i] (ig (b:=bC) (cs:=cur) (T:=263) (by simp[bh.bF]) lP) ?_;refine a1.mk (λa2=>by simp at U a2;omega) (λa2=>?_);refine dt.draw a8 rfl rfl rfl ?_;refine ba.mk _ (dk (T:=72) (b:=cE) (cs:=t.ae[j].cells) (k:=8) (n:=1) (by simp) (bk rfl)) ?_;refine ba.mk [.int .i64 i] (ig (b:=bC) (cs:=cur) (T:=263) (by simp[bh.bF]) lP) ?_;refine c2.mk lH i lI rfl ek ?_;refine ba.mk [.int .i64 (q:Nat)] (by have eE:=lJ;rw[q5]at eE;exact eE _) ?_;refine ba.mk [.int .i64 i] (ig (b:=bC) (cs:=cur) (T:=263) (by simp[bh.bF]) lP) ?_;refine bp.mk ((i+1:Nat):Int) d' ?_;refine df.q0 (u.M g++[⟨cE,.cells t.ae[j].cells.toArray 72 (0,0)⟩]) [] cur.toArray 263 (by simp[bh.bF]) ?_ rfl ?_;·simp only[mU];show(n-1)*3+1+1<=_;omega
    refine dt.draw a8 rfl rfl rfl ?_;refine ba.mk [.int .u8 t.ae[j].k] (dk (T:=72) (b:=cE) (cs:=t.ae[j].cells) (k:=0) (n:=1) (by simp) (bk rfl)) ?_;refine c2.mk k7 q pL rfl jh ?_;refine ba.mk [.int .u8 t.ae[q].k] (pN _) ?_;refine iX.mk _ (Cx t.ae[j].k t.ae[q].k) ?_;rintro v xg lE -⟨rfl,rfl,rfl⟩;refine eA.mk λiJ C0 C1=>?_;refine a9.append a8 rfl (by simp) (e:=263) rfl rfl rfl ⟨some bC,n,cT,bt cur ((n-1)*3+1) [.int .i64 ((i+1:Nat):Int)]⟩ (xs:=jL (eM++[(j,i+1,w)])) xf rfl (m:=1) rfl (news:=ik (q,0,ew t.ae[j].k t.ae[q].k)) (by decide) (dk (b:=iJ) (cs:=ik (q,0,ew t.ae[j].k t.ae[q].k)) (k:=0) (n:=3) (T:=263) (.head _) (bk rfl)) rfl (Mr:=⟨iJ,.cells (ik (q,0,ew t.ae[j].k t.ae[q].k)).toArray 263 (0,0)⟩::(u.M g++[⟨cE,.cells t.ae[j].cells.toArray 72 (0,0)⟩])) (by exact gk (l₁:=(⟨iJ,.cells (ik (q,0,ew t.ae[j].k t.ae[q].k)).toArray 263 (0,0)⟩:aC)::(u.M g++[⟨cE,.cells t.ae[j].cells.toArray 72 (0,0)⟩])) (l₂:=[⟨bC,.cells (bt cur ((n-1)*3+1) [.int .i64 ((i+1:Nat):Int)]).toArray 263 (0,0)⟩])) (by show n+1<=_;simp only[maxLen];omega) (by show(n+1)*24<=_;omega) ?_;intro dA c' fZ eL eV fW g4;refine⟨(g,u,⟨some dA,n+1,c',fZ⟩,eM++[(j,i+1,w)]++[(q,0,ew t.ae[j].k t.ae[q].k)],_),aK _ ⟨ke,hu,⟨?_,(λh=>by cases h),λbG _=>⟨eL,eV,fW,?_⟩⟩,by simp,?_,?_,?_⟩ ?_,.perm (M1:=[⟨iJ,.cells (ik (q,0,ew t.ae[j].k t.ae[q].k)).toArray 263 (0,0)⟩,⟨cE,.cells t.ae[j].cells.toArray 72 (0,0)⟩]++(⟨dA,.cells fZ.toArray 263 (0,0)⟩::u.M g)) (CW _ _ _ _) (.sub (jA _ _) .refl),lx,.cons rfl .nil⟩;·show _=(n+1)*3;rw[xa];simp;omega
    ·show fZ.take ((n+1)*3)=_;rw[sN (eM++[(j,i+1,w)])];exact g4
    ·intro e he;simp only[c9,ju]at he;rcases he with(he | rfl) | rfl
     ·exact fA e (by simp[he])
     ·exact ap
     ·exact gr
    ·simp only;rw[sL,sL,lQ,<-iI,fo];rw[show decide (0<(i:Int))=false from a2];simp
    ·simp only;rw[lO,lO];omega
    ·simp only;rw[lO,lO];omega
   ·have ek:t.ae[j].kids.length<=i:=by simp at aj;omega
    have fo:=CU (deb:=deb) ap (w:=w) ek;have mu:=zE t.ae[j];refine ba.mk _ (dk (T:=72) (b:=cE) (cs:=t.ae[j].cells) (k:=0) (n:=9) (by simp) (bk rfl)) ?_;refine aY.mk [] (u.M g++[⟨cE,.cells t.ae[j].cells.toArray 72 (0,0)⟩,⟨bC,.cells cur.toArray 263 (0,0)⟩]) _ (.refl _) (CO kf.c kf.p kf.s k5 kI) ?_;rintro v xg lE -⟨rfl,rfl,rfl⟩;refine aY.mk (u.M g) [⟨cE,.cells t.ae[j].cells.toArray 72 (0,0)⟩,⟨bC,.cells cur.toArray 263 (0,0)⟩] _ (by simp) (nm g hu _ (by show _+(jK t.ae[j]).length<=_;omega)) ?_;rintro v zJ C2 -⟨rfl,rfl,a,aN,en,rfl⟩;have I2:a.bz.length<=2412*t.ae.length+2410:=by rw[en,cP];show _+(jK t.ae[j]).length<=_;omega
    refine ba.mk [.bool w] (ig (b:=bC) (cs:=cur) (T:=263) (by simp[bh.bF]) fI) ?_;refine a1.mk (λhw=>?_) (λhw=>?_)
    ·subst hw;refine aY.mk (a.M g) [⟨cE,.cells t.ae[j].cells.toArray 72 (0,0)⟩,⟨bC,.cells cur.toArray 263 (0,0)⟩] _ (by simp) (jG g aN 41 (by omega)) ?_;rintro v zK C3 -⟨rfl,rfl,c,aB,fE,rfl⟩;refine bp.mk (((n-1:Nat)):Int) sQ ?_;refine h0.mk 0 (n-1) rfl rfl (gq _) (by show n-1<=cT;omega) ?_;refine a1.mk (λa2=>?_) (λa2=>?_)
     ·have fQ:0<n-1:=by simp at a2;omega
      refine⟨(g,c,⟨some bC,n-1,cT,cur⟩,eM,_),aK _ ⟨ke,aB,⟨?_,(λh=>by cases h),λbG _=>⟨dM,by show n-1<=cT;omega,hG,?_⟩⟩,?_,λe he=>fA e (by simp[he]),?_,?_⟩ ?_,.perm (M1:=[⟨cE,.cells t.ae[j].cells.toArray 72 (0,0)⟩]++(⟨bC,.cells cur.toArray 263 (0,0)⟩::c.M g)) (gk (l₂:=[_,_])) (.sub (jA _ _) .refl),lx,.cons rfl .nil⟩;·exact fm
      ·show cur.take ((n-1)*3)=_;rw[ih,<-fm];exact nc rfl
      ·intro h;simp only at h;rw[h]at jM;simp at jM;omega
      ·simp only;rw[fE,en,lQ,<-iI,fo];simp[strOf]
      ·simp only;omega
      ·simp only[iH];omega
     ·have fQ:n-1=0:=by simp at a2;omega
      have nz:eM=[]:=h7 (by omega);have ji:c.bz=gz deb t.ae t.root:=by rw[fE,en,lQ,<-iI,fo,nz];simp[nw,strOf]
      refine aY.mk (c.M g) [⟨cE,.cells t.ae[j].cells.toArray 72 (0,0)⟩,⟨bC,.cells cur.toArray 263 (0,0)⟩] _ (by simp) (pI g aB (by rw[ji];omega)) ?_;rintro v sR ux -⟨rfl,rfl,rfl⟩;refine⟨_,_,.sub (fa _) .refl,?_,ke,rfl⟩;rw[ji];rfl
    ·subst hw;refine bp.mk (((n-1:Nat)):Int) sQ ?_;refine h0.mk 0 (n-1) rfl rfl (gq _) (by show n-1<=cT;omega) ?_;refine a1.mk (λa2=>?_) (λa2=>?_)
     ·have fQ:0<n-1:=by simp at a2;omega
      refine⟨(g,a,⟨some bC,n-1,cT,cur⟩,eM,_),aK _ ⟨ke,aN,⟨?_,(λh=>by cases h),λbG _=>⟨dM,by show n-1<=cT;omega,hG,?_⟩⟩,?_,λe he=>fA e (by simp[he]),?_,?_⟩ ?_,.perm (M1:=[⟨cE,.cells t.ae[j].cells.toArray 72 (0,0)⟩]++(⟨bC,.cells cur.toArray 263 (0,0)⟩::a.M g)) (gk (l₂:=[_,_])) (.sub (jA _ _) .refl),lx,.cons rfl .nil⟩;·exact fm
      ·show cur.take ((n-1)*3)=_;rw[ih,<-fm];exact nc rfl
      ·intro h;simp only at h;rw[h]at jM;simp at jM;omega
      ·simp only;rw[en,lQ,<-iI,fo];simp[strOf]
      ·simp only;omega
      ·simp only[iH];omega
     ·have fQ:n-1=0:=by simp at a2;omega
      have nz:eM=[]:=h7 (by omega);have ji:a.bz=gz deb t.ae t.root:=by rw[en,lQ,<-iI,fo,nz];simp[nw,strOf]
      refine aY.mk (a.M g) [⟨cE,.cells t.ae[j].cells.toArray 72 (0,0)⟩,⟨bC,.cells cur.toArray 263 (0,0)⟩] _ (by simp) (pI g aN (by rw[ji];omega)) ?_;rintro v sR ux -⟨rfl,rfl,rfl⟩;refine⟨_,_,.sub (fa _) .refl,?_,ke,rfl⟩;rw[ji];rfl
 ·have XD:x.bz=x.bz++jg deb t.ae (j,i,w):=by simp only[jg,U,bj,hd]
  have kf:=bJ.mono hle;have oy:=aq.mono hle;have k5:=oy.ae t.ae[j] (et ap);have xe:∀ {k m:Nat},k+m<=9->cx ct (⟨cE,.cells t.ae[j].cells.toArray 72 (0,0)⟩::⟨bC,.cells cur.toArray 263 (0,0)⟩::x.M g) ((⟨cE,0,none⟩:Addr).add k) m ((t.ae[j].cells.drop k).take m):=λh=>dk (T:=72) (by simp) h;refine dt.draw a8 rfl rfl rfl ?_;refine ba.mk [.int .i64 i] (ig (b:=bC) (cs:=cur) (T:=263) (by simp[bh.bF]) lP) ?_;refine ba.mk _ (xe (by decide)) ?_;refine a1.mk (λaj=>?_) (λaj=>?_)
  ·have ek:i<t.ae[j].kn:=by simpa using aj
   have k6:i<t.ae[j].kids.length:=by omega
   obtain⟨lH,lI,lJ⟩:=k5.aV.one ek k6;have fP:=ou al j ap _ (et k6);obtain⟨q,q5⟩:=ob fP.1;have gr:q<t.ae.length:=by omega
   have jh:q<t.n:=by omega
   obtain⟨k7,pL,pM⟩:=oy.aV.row aH.da jh gr;have pN:∀ M,cx ct M ((k7.add (q*9)).add 0) 1 [.int .u8 t.ae[q].k]:=λM=>(pM M).part (k:=0) (m:=1) (by decide);have ny:hk t.ae ((q:Nat):Int)=t.ae[q].k:=by simp[hk,c1,gr]
   have fo:=CS (deb:=deb) al ap (w:=w) k6;have q6:=CT al ap (w:=w) (w':=ew t.ae[j].k t.ae[q].k) k6;rw[q5]at fo q6;simp only[zA,ll]at fo q6;rw[ny]at fo;have d':IntKind.i64.wrap ((i:Int)+1)=((i+1:Nat):Int):=by have:=k5.aV.cap;rw[wrap_i64 ⟨by omega,by omega⟩];omega
   have cX:bt cur ((n-1)*3+1) [.int .i64 ((i+1:Nat):Int)]=jL eM++([.int .i64 j,.int .i64 ((i+1:Nat):Int),.bool w]++rest):=by rw[ih,<-fm];exact CX _ _ _ _ _ _
   have xf:bh.ok ⟨some bC,n,cT,bt cur ((n-1)*3+1) [.int .i64 ((i+1:Nat):Int)]⟩ 3 (jL (eM++[(j,i+1,w)])):=by
    rw[cX,sN];refine⟨by simp only[cP,c8,gP];omega,(λh=>by cases h),λbG _=>⟨?_,iF,hG,?_⟩⟩;·simp only;rw[<-dM,ih];simp
    ·simp only;rw[<-hc];refine nc ?_;simp only[cP,c8,gP];omega
   refine ba.mk [.int .i64 i] (ig (b:=bC) (cs:=cur) (T:=263) (by simp[bh.bF]) lP) ?_;refine a1.mk (λa2=>?_) (λa2=>by simp at U a2;omega);refine ba.mk [.int .u8 t.ae[j].k] (dk (T:=72) (b:=cE) (cs:=t.ae[j].cells) (k:=0) (n:=1) (.head _) (bk rfl)) ?_;refine eo.mk t.ae[j].k.toNat (by have:=k5.k;omega) (by have:=kI.k;have:=k5.k;omega) ?_;refine ba.mk _ (kf.s.rd _ (by have:=kI.k;have:=k5.k;show t.ae[j].k.toNat*3+1<30;omega)) ?_;refine aY.mk (x.M g) [⟨cE,.cells t.ae[j].cells.toArray 72 (0,0)⟩,⟨bC,.cells cur.toArray 263 (0,0)⟩] _ (gk (l₁:=[_,_])) (nm g xc _ (by have:=w9 (t.ae[j].k.toNat*3+1);show _+(lN (t.ae[j].k.toNat*3+1)).length<=_;omega)) ?_;rintro v ng ms -⟨rfl,rfl,z,P4,P5,rfl⟩;have mE:z.bz=x.bz++uv t.ae[j]:=P5;refine dt.draw a8 rfl rfl rfl ?_;refine ba.mk _ (dk (T:=72) (b:=cE) (cs:=t.ae[j].cells) (k:=8) (n:=1) (by simp) (bk rfl)) ?_;refine ba.mk [.int .i64 i] (ig (b:=bC) (cs:=cur) (T:=263) (by simp[bh.bF]) lP) ?_;refine c2.mk lH i lI rfl ek ?_;refine ba.mk [.int .i64 (q:Nat)] (by have eE:=lJ;rw[q5]at eE;exact eE _) ?_;refine ba.mk [.int .i64 i] (ig (b:=bC) (cs:=cur) (T:=263) (by simp[bh.bF]) lP) ?_;refine bp.mk ((i+1:Nat):Int) d' ?_;refine df.q0 (z.M g++[⟨cE,.cells t.ae[j].cells.toArray 72 (0,0)⟩]) [] cur.toArray 263 (by simp[bh.bF]) ?_ rfl ?_;·simp only[mU];show(n-1)*3+1+1<=_;omega
   refine dt.draw a8 rfl rfl rfl ?_;refine ba.mk [.int .u8 t.ae[j].k] (dk (T:=72) (b:=cE) (cs:=t.ae[j].cells) (k:=0) (n:=1) (by simp) (bk rfl)) ?_;refine c2.mk k7 q pL rfl jh ?_;refine ba.mk [.int .u8 t.ae[q].k] (pN _) ?_;refine iX.mk _ (Cx t.ae[j].k t.ae[q].k) ?_;rintro v xg lE -⟨rfl,rfl,rfl⟩;refine eA.mk λiJ C0 C1=>?_;refine a9.append a8 rfl (by simp) (e:=263) rfl rfl rfl ⟨some bC,n,cT,bt cur ((n-1)*3+1) [.int .i64 ((i+1:Nat):Int)]⟩ (xs:=jL (eM++[(j,i+1,w)])) xf rfl (m:=1) rfl (news:=ik (q,0,ew t.ae[j].k t.ae[q].k)) (by decide) (dk (b:=iJ) (cs:=ik (q,0,ew t.ae[j].k t.ae[q].k)) (k:=0) (n:=3) (T:=263) (.head _) (bk rfl)) rfl (Mr:=⟨iJ,.cells (ik (q,0,ew t.ae[j].k t.ae[q].k)).toArray 263 (0,0)⟩::(z.M g++[⟨cE,.cells t.ae[j].cells.toArray 72 (0,0)⟩])) (by exact gk (l₁:=(⟨iJ,.cells (ik (q,0,ew t.ae[j].k t.ae[q].k)).toArray 263 (0,0)⟩:aC)::(z.M g++[⟨cE,.cells t.ae[j].cells.toArray 72 (0,0)⟩])) (l₂:=[⟨bC,.cells (bt cur ((n-1)*3+1) [.int .i64 ((i+1:Nat):Int)]).toArray 263 (0,0)⟩])) (by show n+1<=_;simp only[maxLen];omega) (by show(n+1)*24<=_;omega) ?_;intro dA c' fZ eL eV fW g4;refine⟨(g,z,⟨some dA,n+1,c',fZ⟩,eM++[(j,i+1,w)]++[(q,0,ew t.ae[j].k t.ae[q].k)],_),aK _ ⟨hle,P4,⟨?_,(λh=>by cases h),λbG _=>⟨eL,eV,fW,?_⟩⟩,by simp,?_,?_,?_⟩ ?_,.perm (M1:=[⟨iJ,.cells (ik (q,0,ew t.ae[j].k t.ae[q].k)).toArray 263 (0,0)⟩,⟨cE,.cells t.ae[j].cells.toArray 72 (0,0)⟩]++(⟨dA,.cells fZ.toArray 263 (0,0)⟩::z.M g)) (CW _ _ _ _) (.sub (jA _ _) .refl),lx,.cons rfl .nil⟩;·show _=(n+1)*3;rw[xa];simp;omega
   ·show fZ.take ((n+1)*3)=_;rw[sN (eM++[(j,i+1,w)])];exact g4
   ·intro e he;simp only[c9,ju]at he;rcases he with(he | rfl) | rfl
    ·exact fA e (by simp[he])
    ·exact ap
    ·exact gr
   ·simp only;rw[sL,sL,mE,<-iI,fo];rw[show decide (0<(i:Int))=true from a2,show jg deb t.ae (j,i,w)=[]from by simp only[jg,U,bj]];simp
   ·simp only;rw[lO,lO];omega
   ·simp only;rw[lO,lO];omega
  ·have ek:t.ae[j].kids.length<=i:=by simp at aj;omega
   have P6:=CU (deb:=deb) ap (w:=w) ek;have fo:nv deb t.ae (j,i,w)=jK t.ae[j]++(bif w then [41]else []):=by rw[P6];simp only[jg,U,bj,lC]
   have mu:=zE t.ae[j];refine ba.mk _ (dk (T:=72) (b:=cE) (cs:=t.ae[j].cells) (k:=0) (n:=9) (.head _) (bk rfl)) ?_;refine aY.mk [] (⟨cE,.cells t.ae[j].cells.toArray 72 (0,0)⟩::⟨bC,.cells cur.toArray 263 (0,0)⟩::x.M g) _ (.refl _) (CO kf.c kf.p kf.s k5 kI) ?_;rintro v xg lE -⟨rfl,rfl,rfl⟩;refine aY.mk (x.M g) [⟨cE,.cells t.ae[j].cells.toArray 72 (0,0)⟩,⟨bC,.cells cur.toArray 263 (0,0)⟩] _ (gk (l₁:=[_,_])) (nm g xc _ (by show _+(jK t.ae[j]).length<=_;omega)) ?_;rintro v zJ C2 -⟨rfl,rfl,a,aN,en,rfl⟩;have I2:a.bz.length<=2412*t.ae.length+2410:=by rw[en,cP];show _+(jK t.ae[j]).length<=_;omega
   refine ba.mk [.bool w] (ig (b:=bC) (cs:=cur) (T:=263) (by simp[bh.bF]) fI) ?_;refine a1.mk (λhw=>?_) (λhw=>?_)
   ·subst hw;refine aY.mk (a.M g) [⟨cE,.cells t.ae[j].cells.toArray 72 (0,0)⟩,⟨bC,.cells cur.toArray 263 (0,0)⟩] _ (by simp) (jG g aN 41 (by omega)) ?_;rintro v zK C3 -⟨rfl,rfl,c,aB,fE,rfl⟩;refine bp.mk (((n-1:Nat)):Int) sQ ?_;refine h0.mk 0 (n-1) rfl rfl (gq _) (by show n-1<=cT;omega) ?_;refine a1.mk (λa2=>?_) (λa2=>?_)
    ·have fQ:0<n-1:=by simp at a2;omega
     refine⟨(g,c,⟨some bC,n-1,cT,cur⟩,eM,_),aK _ ⟨hle,aB,⟨?_,(λh=>by cases h),λbG _=>⟨dM,by show n-1<=cT;omega,hG,?_⟩⟩,?_,λe he=>fA e (by simp[he]),?_,?_⟩ ?_,.perm (M1:=[⟨cE,.cells t.ae[j].cells.toArray 72 (0,0)⟩]++(⟨bC,.cells cur.toArray 263 (0,0)⟩::c.M g)) (gk (l₂:=[_,_])) (.sub (jA _ _) .refl),lx,.cons rfl .nil⟩;·exact fm
     ·show cur.take ((n-1)*3)=_;rw[ih,<-fm];exact nc rfl
     ·intro h;simp only at h;rw[h]at jM;simp at jM;omega
     ·simp only;rw[fE,en,<-iI,fo];simp[strOf]
     ·simp only;omega
     ·simp only[iH];omega
    ·have fQ:n-1=0:=by simp at a2;omega
     have nz:eM=[]:=h7 (by omega);have ji:c.bz=gz deb t.ae t.root:=by rw[fE,en,<-iI,fo,nz];simp[nw,strOf]
     refine aY.mk (c.M g) [⟨cE,.cells t.ae[j].cells.toArray 72 (0,0)⟩,⟨bC,.cells cur.toArray 263 (0,0)⟩] _ (by simp) (pI g aB (by rw[ji];omega)) ?_;rintro v sR ux -⟨rfl,rfl,rfl⟩;refine⟨_,_,.sub (fa _) .refl,?_,hle,rfl⟩;rw[ji];rfl
   ·subst hw;refine bp.mk (((n-1:Nat)):Int) sQ ?_;refine h0.mk 0 (n-1) rfl rfl (gq _) (by show n-1<=cT;omega) ?_;refine a1.mk (λa2=>?_) (λa2=>?_)
    ·have fQ:0<n-1:=by simp at a2;omega
     refine⟨(g,a,⟨some bC,n-1,cT,cur⟩,eM,_),aK _ ⟨hle,aN,⟨?_,(λh=>by cases h),λbG _=>⟨dM,by show n-1<=cT;omega,hG,?_⟩⟩,?_,λe he=>fA e (by simp[he]),?_,?_⟩ ?_,.perm (M1:=[⟨cE,.cells t.ae[j].cells.toArray 72 (0,0)⟩]++(⟨bC,.cells cur.toArray 263 (0,0)⟩::a.M g)) (gk (l₂:=[_,_])) (.sub (jA _ _) .refl),lx,.cons rfl .nil⟩;·exact fm
     ·show cur.take ((n-1)*3)=_;rw[ih,<-fm];exact nc rfl
     ·intro h;simp only at h;rw[h]at jM;simp at jM;omega
     ·simp only;rw[en,<-iI,fo];simp[strOf]
     ·simp only;omega
     ·simp only[iH];omega
    ·have fQ:n-1=0:=by simp at a2;omega
     have nz:eM=[]:=h7 (by omega);have ji:a.bz=gz deb t.ae t.root:=by rw[en,<-iI,fo,nz];simp[nw,strOf]
     refine aY.mk (a.M g) [⟨cE,.cells t.ae[j].cells.toArray 72 (0,0)⟩,⟨bC,.cells cur.toArray 263 (0,0)⟩] _ (by simp) (pI g aN (by rw[ji];omega)) ?_;rintro v sR ux -⟨rfl,rfl,rfl⟩;refine⟨_,_,.sub (fa _) .refl,?_,hle,rfl⟩;rw[ji];rfl
def I3{c:Code}{K:hA}{t1 t2 t3:Nat}{a b d:b0}{e:Option (List Value)}(h:∀ G sO,V X c (dK (dK (dK G t3 d) t2 b) t1 a) (fs sO t1 e) I M K)
  (U:F t1=a) (aa:F t2=b) (ak:F t3=d) (aL:C t1=e):V X c F C I M K:=by
 have:=h F C;rwa [CV ak,CV aa,CV U,P0 aL]at this
def P7(bJ:fH I deb)(aq:t.ok I)(aF:t.n<=1024):Spec Tryz.prog 187 [t.val] I [] λr I' M'=>r=.string (strOf (ij deb t))/\(∀ b o,I b=some o->I' b=some o)/\M'=[]:=by
 refine cB [3] a8 Tryz.func187 rfl rfl rfl ?_;intro B aD;have kT:=aq.n;cases al:right t with
 |true=>
  have C4:ij deb t=gz deb t.ae t.root:=by simp[ij,al]
  rw[C4];have Cu:=Cp al;obtain⟨r,nl⟩:=ob Cu.1;have mC:r<t.ae.length:=by omega
  obtain⟨ae,zL,zM,zN,root⟩:=t;simp only at nl;subst nl;have nl:(⟨ae,zL,zM,zN,Int.ofNat r⟩:cc).root=Int.ofNat r:=rfl;refine dt.scope a8 rfl (λy:Nat×xb=>IY ⟨ae,zL,zM,zN,Int.ofNat r⟩ y.1 y.2) (λ_=>0) (λy=>zG I deb ⟨ae,zL,zM,zN,Int.ofNat r⟩ y.2) (λy=>ox ae y.2.2.2.1) (λ_=>IX (zF (Tryz.f187.body.getD .skip)) 0) (λ_ _=>⟨by kernel_rfl,by kernel_rfl⟩) ?_ ?_
  ·refine aY.mk [] [] _ (.refl _) (ug bJ.c aq) ?_;rintro v I' M' -⟨rfl,rfl,rfl⟩;rw[al];refine a1.mk (λh=>by cases h) (λ_=>?_);refine eA.mk λg aw pH=>?_;refine eA.mk λeU pO XE=>?_;refine I3 (t1:=1) (t2:=3) (t3:=4) (λG sO=>IZ bJ aq al aF (p:=λl y=>zG _ deb ⟨ae,zL,zM,zN,Int.ofNat r⟩ y.2/\0=l) (g:=g) (dj.new,⟨some eU,1,1,ik (r,0,false)⟩,[(r,0,false)],I') ?_ (λy aE _=>⟨aE,rfl⟩) B aD G sO) rfl rfl rfl rfl;refine⟨λ_ _ h=>h,dj.zs,⟨rfl,(λh=>by cases h),λbG _=>⟨rfl,cK _,by simp only[maxLen];omega,rfl⟩⟩,by simp,?_,?_,?_⟩
   ·intro e he;simp only[ju]at he;subst he;exact mC
   ·simp only[nw,List.reverse_singleton,qJ,List.flatMap_nil,hd];have eE:=IV (deb:=deb) al mC false;simp only at eE |-;rw[eE];simp[dj.new,paren]
   ·have U:=IW al mC false;have aa:=PZ al;simp only[zA]at U aa;simp only[ox,cC,lD,jB,List.sum_nil];omega
  ·rintro⟨g,x⟩ab;refine I3 (t1:=1) (t2:=3) (t3:=4) (λG sO=>IZ bJ aq al aF (g:=g) x ab (λy aE a0=>⟨⟨aE,rfl⟩,a0⟩) B aD G sO) rfl rfl rfl rfl
 |false=>
  have C4:ij deb t=[]:=by simp[ij,al]
  rw[C4];refine dt.scope a8 rfl (ι:=Empty) (λe=>nomatch e) (λe=>nomatch e) (λe=>nomatch e) (λe=>nomatch e) (λ_=>.skip) (λe=>nomatch e) ?_ (λe=>nomatch e);refine aY.mk [] [] _ (.refl _) (ug bJ.c aq) ?_;rintro v I' M' -⟨rfl,rfl,rfl⟩;rw[al];refine a1.mk (λ_=>?_) (λh=>by cases h);exact⟨_,_,.refl,rfl,λ_ _ h=>h,rfl⟩
def aT.val(d:aT):Value:=.agg #[.string d.name,.slice d.t.a d.t.n d.t.c,.int .i64 d.t.root]
def kg(deb:List Int)(d:aT):List UInt8:=
 bif decide (strOf (ij deb d.t)=⟨#[]⟩) || !hH d.name then []else d.name.data.toList++[32,60,45,32]++ij deb d.t++[10]
def I4{s:ByteArray}(h:hH s=true):s.size<=32:=by unfold hH at h;simp only[bs,e3]at h;omega
def P8(deb:List Int)(d:aT):(kg deb d).length<=37+2412*d.t.ae.length:=by
 have U:=IS deb d.t;unfold kg;cases aB:(decide (strOf (ij deb d.t)=⟨#[]⟩) || !hH d.name)with
 |true=>simp| false=>simp only[mq,Bool.not_eq_false']at aB;have aa:=I4 aB.2;have ak:d.name.data.toList.length=d.name.size:=rfl;simp only[bj,cP,c8,gP];omega
def P9(bJ:fH I deb){d:aT}(ao:d.ok I)(aF:d.t.n<=1024):Spec Tryz.prog 174 [d.val] I [] λr I' M'=>r=.string (strOf (kg deb d))/\(∀ b o,I b=some o->I' b=some o)/\M'=[]:=by
 refine cB [] a8 Tryz.func174 rfl rfl rfl ?_;intro B aD;refine aY.mk [] [] _ (.refl _) (P7 bJ ao.t aF) ?_;rintro v ct M1 -⟨rfl,ch,rfl⟩;refine b9.mk (λU=>?_) (λU=>?_)
 ·refine aY.mk [] [] _ (.refl _) (Cn _ d.name) ?_;rintro v I' M' -⟨rfl,rfl,rfl⟩;refine a1.mk (λaa=>?_) (λaa=>?_)
  ·refine⟨_,_,.refl,?_,ch,rfl⟩;have:kg deb d=[]:=by unfold kg;rw[U,aa];rfl
   rw[this];rfl
  ·have hm:hH d.name=true:=by simpa using aa
   have aa:=I4 hm;have ak:d.name.data.toList.length=d.name.size:=rfl;have aL:=IS deb d.t;have be:=ao.t.n;refine eI.concat (a:=d.name) (b:=strOf [32,60,45,32]) (by show _+4<=_;omega) ?_;refine eI.concat (a:=d.name++strOf [32,60,45,32]) (b:=strOf (ij deb d.t)) (by rw[zz];show _+4+(ij deb d.t).length<=_;omega) ?_;refine eI.concat (a:=d.name++strOf [32,60,45,32]++strOf (ij deb d.t)) (b:=strOf [10]) (by rw[zz,zz];show _+4+(ij deb d.t).length+1<=_;omega) ?_;refine⟨_,_,.refl,?_,ch,rfl⟩;refine congrArg Value.string (uk ?_);rw[kg,U,hm];simp[strOf]
 ·refine⟨_,_,.refl,?_,ch,rfl⟩;have:kg deb d=[]:=by unfold kg;rw[U];rfl
  rw[this];rfl
def kh(deb:List Int):List aT->List UInt8->List UInt8
 |[],acc=>acc| d::ds,acc=>bif decide (strOf (kg deb d)=⟨#[]⟩)then []else kh deb ds (acc++kg deb d)
def P'(bJ:fH I deb)(aw:g.ok I)(aF:g.n<=64)(aq:∀ d∈g.ds,d.t.n<=1024):Spec Tryz.prog 155 [g.val] I [] λr I' M'=>r=.string (strOf (kh deb g.ds []))/\(∀ b o,I b=some o->I' b=some o)/\M'=[]:=by
 refine cB [3] a8 Tryz.func155 rfl rfl rfl ?_;intro B aD;have pP:=aw.n;have xd:∀ d∈g.ds,d.t.ae.length<=1024:=λd ao=>by rw[(aw.ds d ao).t.n];exact aq d ao
 refine eA.mk λb ag sw=>?_;refine fh.inv (ι:=Nat×dj×aG) (λp=>{ b8:=[(3,.val (ptr b)),(8,.val (.slice g.a g.n g.c)),(9,.val (.int .i64 g.n)),(10,.val (.int .i64 p.1))],dL:=p.2.2,fg:=p.2.1.M b }) (λp=>p.1<=g.n/\p.2.1.ok/\(∀ b o,I b=some o->p.2.2 b=some o)/\p.2.1.bz.length<=2500000*p.1/\kh deb g.ds []=kh deb (g.ds.drop p.1) p.2.1.bz) (λp=>g.n-p.1) ?_ ?_
 ·exact⟨(0,dj.new,I),⟨by simp,dj.zs,λ_ _ h=>h,by simp[dj.new],rfl⟩,.refl,ei,.nil⟩
 ·rintro⟨i,x,ct⟩⟨hi,ab,ch,jJ,jf⟩;simp only at hi ab ch jJ jf;refine a1.mk (λh=>?_) (λh=>?_)
  ·have a0:i<g.n:=by simpa using h
   have cJ:i<g.ds.length:=by omega
   have gp:=aw.mono ch;obtain⟨ad,dH,cj⟩:=gp.aV.row aT.da a0 cJ;have hL:g.ds[i]∈g.ds:=et cJ;have XF:=P8 deb g.ds[i];have eE:=xd _ hL;have hj:g.ds.drop i=g.ds[i]::g.ds.drop (i+1):=fe cJ;refine c2.mk ad i dH rfl a0 ?_;refine ba.mk _ (cj _) ?_;refine aY.mk [] (x.M b) _ (.refl _) (P9 (bJ.mono ch) (gp.ds _ hL) (aq _ hL)) ?_;rintro v du cQ -⟨rfl,hK,rfl⟩;refine a1.mk (λU=>?_) (λU=>?_);·refine⟨_,_,.sub (fa _) .refl,?_,λb o h=>hK _ _ (ch _ _ h),rfl⟩;rw[jf,hj,kh,U];rfl
   ·refine aY.mk (x.M b) [] _ (by simp) (nm b ab _ (by show _+(kg deb g.ds[i]).length<=_;omega)) ?_;rintro v I' M' -⟨rfl,rfl,y,aE,ev,rfl⟩;have I5:y.bz=x.bz++kg deb g.ds[i]:=ev;have d':IntKind.i64.wrap ((i:Int)+1)=((i+1:Nat):Int):=by rw[wrap_i64 ⟨by omega,by omega⟩];omega
    refine bp.mk _ d' ?_;refine⟨(i+1,y,_),⟨⟨by simp only;omega,aE,λb o h=>hK _ _ (ch _ _ h),?_,?_⟩,by simp only;omega⟩,.perm (by simp) .refl,ei,.nil⟩;·simp only;rw[I5,cP];omega
    ·simp only;rw[jf,hj,kh,U,I5];rfl
  ·have eD:g.n<=i:=by simpa using h
   have eC:g.ds.drop i=[]:=iZ (by omega);refine aY.mk (x.M b) [] _ (by simp) (pI b ab (by omega)) ?_;rintro v I' M' -⟨rfl,rfl,rfl⟩;refine⟨_,_,.refl,?_,ch,by simp⟩;rw[jf,eC];rfl
def Qa(bJ:fH I deb)(aw:g.ok I)(aF:g.n<=64)(aq:∀ d∈g.ds,d.t.n<=1024):Spec Tryz.prog 116 [g.val] I [] λr I' M'=>r=.int .i64 ((kh deb g.ds []).length:Int)/\(∀ b o,I b=some o->I' b=some o)/\M'=[]:=by refine cB [] a8 Tryz.func116 rfl rfl rfl ?_;intro B aD;refine aY.mk [] [] _ (.refl _) (P' bJ aw aF aq) ?_;rintro v I' M' -⟨rfl,a7,rfl⟩;exact⟨_,_,.refl,rfl,a7,rfl⟩
def hl(ae:List aH)(kind:Int):List Int->Bool
 |[]=>true| k::ks=>bif decide (hk ae k=kind)||(decide (hk ae k=0)&&decide (kind=4))then false else hl ae kind ks
def hn(ae:List aH):List aH->Bool
 |[]=>true| d::ds=>bif !decide (d.k=4) && !decide (d.k=5)then hn ae ds else bif hl ae d.k d.kids then hn ae ds else false
def normal(t:cc):Bool:=right t&&hn t.ae t.ae
def iK{i:Nat}(h:i<=140737488355328):IntKind.i64.wrap ((i:Int)+1)=((i+1:Nat):Int):=by rw[wrap_i64 ⟨by omega,by omega⟩];omega
def Qb(aB:k1 I)(aq:t.ok I):Spec Tryz.prog 84 [t.val] I [] (λv I' M'=>v=.bool (normal t)/\I'=I/\M'=[]):=by
 refine cB [] a8 Tryz.func84 rfl rfl rfl ?_;intro B aD;have aF:=aq.n;have lG:=aq.aV.cap;refine aY.mk [] [] _ (.refl _) (ug aB aq) ?_;rintro v I' M' -⟨rfl,rfl,rfl⟩;refine a1.mk (λh=>?_) (λh=>?_)
 ·refine⟨_,_,.refl,?_,rfl,rfl⟩;simp[normal,show right t=false by simpa using h]
 ·have al:right t=true:=by simpa using h
  have ed:normal t=hn t.ae t.ae:=by simp[normal,al]
  rw[ed];refine fh.inv (ι:=Nat) (λi=>{ b8:=[(1,.ref 1 0),(12,.val (.slice t.a t.n t.c)),(13,.val (.int .i64 t.n)),(14,.val (.int .i64 i))],cl:=[(1,t.cells)],dL:=I' }) (λi=>i<=t.n/\hn t.ae t.ae=hn t.ae (t.ae.drop i)) (λi=>t.n-i) ?_ ?_;·exact⟨0,⟨by simp,rfl⟩,.refl,ei,.cons rfl .nil⟩
  ·rintro i⟨hi,fA⟩;refine a1.mk (λh=>?_) (λh=>?_)
   ·have a0:i<t.n:=by simpa using h
    have cJ:i<t.ae.length:=by omega
    obtain⟨ad,dH,cj⟩:=aq.aV.row aH.da a0 cJ;have gn:=aq.ae t.ae[i] (et cJ);have gJ:=gn.kn;have hj:t.ae.drop i=t.ae[i]::t.ae.drop (i+1):=fe cJ;refine c2.mk ad i dH rfl a0 ?_;refine ba.mk _ (cj _) ?_;refine b9.mk (λcH=>?_) (λcH=>?_)
    ·refine a1.mk (λcz=>?_) (λcz=>?_)
     ·refine bp.mk _ (iK (i:=i) (by omega)) ?_;refine⟨i+1,⟨⟨by omega,?_⟩,by omega⟩,.refl,ei,.cons rfl .nil⟩;rw[fA,hj,hn,cH,cz];rfl
     ·have kb:hn t.ae t.ae=bif hl t.ae t.ae[i].k t.ae[i].kids then hn t.ae (t.ae.drop (i+1))else false:=by rw[fA,hj,hn,cH,cz];rfl
      refine fh.inv (ι:=Nat) (λj=>{ b8:=[(1,.ref 1 0),(4,.ref 4 0),(12,.val (.slice t.a t.n t.c)),(13,.val (.int .i64 t.n)),(14,.val (.int .i64 i)),(27,.val (.slice t.ae[i].ka t.ae[i].kn t.ae[i].h2)),(28,.val (.int .i64 t.ae[i].kn)),(29,.val (.int .i64 j))],cl:=[(1,t.cells),(4,t.ae[i].cells)],dL:=I' }) (λj=>j<=t.ae[i].kn/\hl t.ae t.ae[i].k t.ae[i].kids=hl t.ae t.ae[i].k (t.ae[i].kids.drop j)) (λj=>t.ae[i].kn-j) ?_ ?_;·exact⟨0,⟨by simp,rfl⟩,.refl,qz,.cons rfl (.cons rfl .nil)⟩
      ·rintro j⟨ap,sS⟩;refine a1.mk (λh=>?_) (λh=>?_)
       ·have fk:j<t.ae[i].kn:=by simpa using h
        have hI:j<t.ae[i].kids.length:=by omega
        obtain⟨lH,lI,lJ⟩:=gn.aV.one fk hI;have oq:t.ae[i].kids.drop j=t.ae[i].kids[j]::t.ae[i].kids.drop (j+1):=fe hI;have fP:=ou al i cJ _ (et hI);generalize CD:t.ae[i].kids[j]=Qc at *;obtain⟨q,rfl⟩:=ob fP.1;have gr:q<t.ae.length:=by omega
        have jh:q<t.n:=by omega
        obtain⟨k7,pL,pM⟩:=aq.aV.row aH.da jh gr;have pN:∀ M,cx I' M ((k7.add (q*9)).add 0) 1 [.int .u8 t.ae[q].k]:=λM=>(pM M).part (k:=0) (m:=1) (by decide);have ny:hk t.ae ((q:Nat):Int)=t.ae[q].k:=by simp[hk,c1,gr]
        have bad:(decide (t.ae[q].k=t.ae[i].k)||(decide (t.ae[q].k=0)&&decide (t.ae[i].k=4)))=true->hn t.ae t.ae=false:=λag=>by rw[kb,sS,oq,hl,ny,ag];rfl
        have xh:(decide (t.ae[q].k=t.ae[i].k)||(decide (t.ae[q].k=0)&&decide (t.ae[i].k=4)))=false->hl t.ae t.ae[i].k t.ae[i].kids=hl t.ae t.ae[i].k (t.ae[i].kids.drop (j+1)):=λag=>by rw[sS,oq,hl,ny,ag];rfl
        have d':=iK (i:=j) (by have:=gn.aV.cap;omega);refine c2.mk lH j lI rfl fk ?_;refine ba.mk _ (lJ _) ?_;refine c2.mk k7 q pL rfl jh ?_;refine ba.mk _ (pN _) ?_;refine b9.mk (λfu=>?_) (λfu=>?_)
        ·refine b9.mk (λfF=>?_) (λfF=>?_)
         ·refine a1.mk (λlR=>?_) (λlR=>?_)
          ·refine⟨_,_,.refl,?_,rfl,rfl⟩;rw[bad (by rw[fu,fF,lR];rfl)]
          ·refine bp.mk _ d' ?_;exact⟨j+1,⟨⟨by omega,xh (by rw[fu,fF,lR];rfl)⟩,by omega⟩,.refl,qz,.cons rfl (.cons rfl .nil)⟩
         ·refine bp.mk _ d' ?_;exact⟨j+1,⟨⟨by omega,xh (by rw[fu,fF];rfl)⟩,by omega⟩,.refl,qz,.cons rfl (.cons rfl .nil)⟩
        ·refine⟨_,_,.refl,?_,rfl,rfl⟩;rw[bad (by rw[fu];rfl)]
       ·have sA:t.ae[i].kids.drop j=[]:=iZ (by simp at h;omega);refine bp.mk _ (iK (i:=i) (by omega)) ?_;refine⟨i+1,⟨⟨by omega,?_⟩,by omega⟩,.refl,ei,.cons rfl .nil⟩;rw[kb,sS,sA];rfl
    ·have kb:hn t.ae t.ae=bif hl t.ae t.ae[i].k t.ae[i].kids then hn t.ae (t.ae.drop (i+1))else false:=by rw[fA,hj,hn,cH];rfl
     refine fh.inv (ι:=Nat) (λj=>{ b8:=[(1,.ref 1 0),(4,.ref 4 0),(12,.val (.slice t.a t.n t.c)),(13,.val (.int .i64 t.n)),(14,.val (.int .i64 i)),(27,.val (.slice t.ae[i].ka t.ae[i].kn t.ae[i].h2)),(28,.val (.int .i64 t.ae[i].kn)),(29,.val (.int .i64 j))],cl:=[(1,t.cells),(4,t.ae[i].cells)],dL:=I' }) (λj=>j<=t.ae[i].kn/\hl t.ae t.ae[i].k t.ae[i].kids=hl t.ae t.ae[i].k (t.ae[i].kids.drop j)) (λj=>t.ae[i].kn-j) ?_ ?_;·exact⟨0,⟨by simp,rfl⟩,.refl,qz,.cons rfl (.cons rfl .nil)⟩
     ·rintro j⟨ap,sS⟩;refine a1.mk (λh=>?_) (λh=>?_)
      ·have fk:j<t.ae[i].kn:=by simpa using h
       have hI:j<t.ae[i].kids.length:=by omega
       obtain⟨lH,lI,lJ⟩:=gn.aV.one fk hI;have oq:t.ae[i].kids.drop j=t.ae[i].kids[j]::t.ae[i].kids.drop (j+1):=fe hI;have fP:=ou al i cJ _ (et hI);generalize CD:t.ae[i].kids[j]=Qc at *;obtain⟨q,rfl⟩:=ob fP.1;have gr:q<t.ae.length:=by omega
       have jh:q<t.n:=by omega
       obtain⟨k7,pL,pM⟩:=aq.aV.row aH.da jh gr;have pN:∀ M,cx I' M ((k7.add (q*9)).add 0) 1 [.int .u8 t.ae[q].k]:=λM=>(pM M).part (k:=0) (m:=1) (by decide);have ny:hk t.ae ((q:Nat):Int)=t.ae[q].k:=by simp[hk,c1,gr]
       have bad:(decide (t.ae[q].k=t.ae[i].k)||(decide (t.ae[q].k=0)&&decide (t.ae[i].k=4)))=true->hn t.ae t.ae=false:=λag=>by rw[kb,sS,oq,hl,ny,ag];rfl
       have xh:(decide (t.ae[q].k=t.ae[i].k)||(decide (t.ae[q].k=0)&&decide (t.ae[i].k=4)))=false->hl t.ae t.ae[i].k t.ae[i].kids=hl t.ae t.ae[i].k (t.ae[i].kids.drop (j+1)):=λag=>by rw[sS,oq,hl,ny,ag];rfl
       have d':=iK (i:=j) (by have:=gn.aV.cap;omega);refine c2.mk lH j lI rfl fk ?_;refine ba.mk _ (lJ _) ?_;refine c2.mk k7 q pL rfl jh ?_;refine ba.mk _ (pN _) ?_;refine b9.mk (λfu=>?_) (λfu=>?_)
       ·refine b9.mk (λfF=>?_) (λfF=>?_)
        ·refine a1.mk (λlR=>?_) (λlR=>?_)
         ·refine⟨_,_,.refl,?_,rfl,rfl⟩;rw[bad (by rw[fu,fF,lR];rfl)]
         ·refine bp.mk _ d' ?_;exact⟨j+1,⟨⟨by omega,xh (by rw[fu,fF,lR];rfl)⟩,by omega⟩,.refl,qz,.cons rfl (.cons rfl .nil)⟩
        ·refine bp.mk _ d' ?_;exact⟨j+1,⟨⟨by omega,xh (by rw[fu,fF];rfl)⟩,by omega⟩,.refl,qz,.cons rfl (.cons rfl .nil)⟩
       ·refine⟨_,_,.refl,?_,rfl,rfl⟩;rw[bad (by rw[fu];rfl)]
      ·have sA:t.ae[i].kids.drop j=[]:=iZ (by simp at h;omega);refine bp.mk _ (iK (i:=i) (by omega)) ?_;refine⟨i+1,⟨⟨by omega,?_⟩,by omega⟩,.refl,ei,.cons rfl .nil⟩;rw[kb,sS,sA];rfl
   ·have eD:t.n<=i:=by simpa using h
    have eC:t.ae.drop i=[]:=iZ (by omega);refine⟨_,_,.refl,?_,rfl,rfl⟩;rw[fA,eC];rfl
def lS(t:cc):Nat:=bif right t then t.n else 0
def oz(g:cO):Nat:=(g.ds.map λd=>lS d.t).sum
def I6{α:Type}(f:α->Nat)(m:Nat):∀ (l:List α),(∀ x∈l,f x<=m)->(l.map f).sum<=m*l.length
 |[],_=>by simp
 |x::l,h=>by have U:=h x (by simp);have aa:=I6 f m l λy aE=>h y (by simp[aE]);simp only[cC,jB,c8,Nat.mul_add];omega
def Qd(aB:k1 I)(aw:g.ok I)(aF:g.n<=64)(aq:∀ d∈g.ds,d.t.n<=1024):Spec Tryz.prog 115 [g.val] I [] (λv I' M'=>v=.int .i64 (oz g:Nat)/\I'=I/\M'=[]):=by
 refine cB [] a8 Tryz.func115 rfl rfl rfl ?_;intro B aD;have pP:=aw.n;refine fh.inv (ι:=Nat) (λi=>{ b8:=[(3,.val (.int .i64 (((g.ds.take i).map λd=>lS d.t).sum:Nat))),(7,.val (.slice g.a g.n g.c)),(8,.val (.int .i64 g.n)),(9,.val (.int .i64 i))],dL:=I }) (λi=>i<=g.n) (λi=>g.n-i) ?_ ?_
 ·exact⟨0,by simp,.refl,ei,.nil⟩
 ·intro i hi;refine a1.mk (λh=>?_) (λh=>?_)
  ·have a0:i<g.n:=by simpa using h
   have cJ:i<g.ds.length:=by omega
   obtain⟨ad,dH,cj⟩:=aw.aV.row aT.da a0 cJ;have hL:g.ds[i]∈g.ds:=et cJ;have an:((g.ds.take i).map λd=>lS d.t).sum<=1024*(g.ds.take i).length:=I6 _ 1024 _ λd ao=>by
    have:=aq d (List.mem_of_mem_take ao);unfold lS;cases right d.t<;>simp
    omega
   have au:=zi i g.ds;have e6:lS g.ds[i].t<=1024:=by
    have:=aq _ hL;unfold lS;cases right g.ds[i].t<;>simp
    omega
   refine c2.mk ad i dH rfl a0 ?_;refine ba.mk _ (cj _) ?_;refine aY.mk [] [] _ (.refl _) (Pf aB (aw.ds _ hL).t) ?_;rintro v I' M' -⟨rfl,rfl,rfl⟩;have ax:(bif right g.ds[i].t then(g.ds[i].t.n:Int)else 0)=(lS g.ds[i].t:Nat):=by
    unfold lS;cases right g.ds[i].t<;>rfl
   rw[ax];refine bp.mk ((((g.ds.take (i+1)).map λd=>lS d.t).sum:Nat):Int) ?_ ?_;·rw[wrap_i64 ⟨by omega,by omega⟩,l7 cJ,kC,CM];simp
   refine bp.mk _ (iK (i:=i) (by omega)) ?_;exact⟨i+1,⟨by omega,by omega⟩,.refl,ei,.nil⟩
  ·have eD:g.n<=i:=by simpa using h
   refine⟨_,_,.refl,?_,rfl,rfl⟩;rw[kU (by omega)];rfl
def mI(deb:List Int)(g:cO):Bool:=
 decide (64<g.n)||((!g.ds.all λd=>jF d.t)||(decide (1024<oz g)||decide (8192<(kh deb g.ds []).length)))
def Qe(bJ:fH I deb)(aw:g.ok I):Spec Tryz.prog 85 [g.val] I [] (λv I' M'=>v=.bool (mI deb g)/\(∀ b o,I b=some o->I' b=some o)/\M'=[]):=by
 refine cB [] a8 Tryz.func85 rfl rfl rfl ?_;intro B aD;have pP:=aw.n;refine a1.mk (λU=>?_) (λU=>?_)
 ·refine⟨_,_,.refl,?_,λ_ _ h=>h,rfl⟩;have:64<g.n:=by simp at U;omega
  simp[mI,this]
 ·have aF:g.n<=64:=by simp at U;omega
  have cv:mI deb g=((!g.ds.all λd=>jF d.t)||(decide (1024<oz g)||decide (8192<(kh deb g.ds []).length))):=by
   have:¬ 64<g.n:=by omega
   simp[mI,this]
  rw[cv];refine fh.inv (ι:=Nat) (λi=>{ b8:=[(1,.ref 1 0),(10,.val (.slice g.a g.n g.c)),(11,.val (.int .i64 g.n)),(12,.val (.int .i64 i))],cl:=[(1,[.slice g.a g.n g.c])],dL:=I }) (λi=>i<=g.n/\(g.ds.take i).all (λd=>jF d.t)=true) (λi=>g.n-i) ?_ ?_;·exact⟨0,⟨by simp,rfl⟩,.refl,ei,.cons rfl .nil⟩
  ·rintro i⟨hi,e'⟩;refine a1.mk (λh=>?_) (λh=>?_)
   ·have a0:i<g.n:=by simpa using h
    have cJ:i<g.ds.length:=by omega
    obtain⟨ad,dH,cj⟩:=aw.aV.row aT.da a0 cJ;have hL:g.ds[i]∈g.ds:=et cJ;refine c2.mk ad i dH rfl a0 ?_;refine ba.mk _ (cj _) ?_;refine aY.mk [] [] _ (.refl _) (Pj bJ.c (aw.ds _ hL).t) ?_;rintro v I' M' -⟨rfl,rfl,rfl⟩;refine a1.mk (λaa=>?_) (λaa=>?_)
    ·refine⟨_,_,.refl,?_,λ_ _ h=>h,rfl⟩;have az:jF g.ds[i].t=false:=by simpa using aa
     have:(g.ds.all λd=>jF d.t)=false:=by rw[CI];exact⟨_,hL,by simp[az]⟩
     rw[this];rfl
    ·have az:jF g.ds[i].t=true:=by simpa using aa
     refine bp.mk _ (iK (i:=i) (by omega)) ?_;refine⟨i+1,⟨⟨by omega,?_⟩,by omega⟩,.refl,ei,.cons rfl .nil⟩;rw[l7 cJ,zB,e'];simp[az]
   ·have eD:g.n<=i:=by simpa using h
    rw[kU (by omega)]at e';rw[e'];have I7:∀ d∈g.ds,d.t.n<=1024:=λd ao=>by have:=eO.1 e' d ao;unfold jF at this;simp only[bs,e3]at this;exact this.1
    refine aY.mk [] [] _ (.refl _) (Qd bJ.c aw aF I7) ?_;rintro v I' M' -⟨rfl,rfl,rfl⟩;refine b9.mk (λaa=>?_) (λaa=>?_)
    ·refine aY.mk [] [] _ (.refl _) (Qa bJ aw aF I7) ?_;rintro v du M' -⟨rfl,hK,rfl⟩;refine⟨_,_,.refl,?_,hK,rfl⟩;have ia:¬ 1024<oz g:=by simp at aa;omega
     simp[ia];omega
    ·refine⟨_,_,.refl,?_,λ_ _ h=>h,rfl⟩;have ia:1024<oz g:=by simp at aa;omega
     simp[ia]
def dQ(name:ByteArray):List aT->Nat->Int
 |[],_=>-1| d::ds,i=>bif decide (d.name=name)then(i:Int)else dQ name ds (i+1)
def drop_cons{L:List α}{k:Nat}{x:α}{rest:List α}(h:L.drop k=x::rest):∃ aj:k<L.length,L[k]=x/\L.drop (k+1)=rest:=by
 have aj:k<L.length:=by apply Nat.lt_of_not_le;intro hle;rw[iZ hle]at h;cases h
 have ao:=fe aj;rw[h]at ao;obtain⟨U,aa⟩:=List.cons.inj ao;exact⟨aj,U.symm,aa.symm⟩
def mJ:Nat->List aT->List (List Value)
 |_,[]=>[]| i,d::ds=>d.t.ae.map (λn=>[.int .i64 i,n.val])++mJ (i+1) ds
def Qf(g:cO):Spec Tryz.prog 86 [g.val] I [] λr I' M'=>∃ b,r=.func (.func 117) #[] #[ptr b]/\I' b=some (.cells #[.slice g.a g.n g.c] 30 (0,0))/\(∀ b o,I b=some o->I' b=some o)/\M'=[]:=by refine cB [1] a8 Tryz.func86 rfl rfl rfl ?_;intro B aD;refine eA.mk λg aw pH=>?_;exact⟨_,_,.vN rfl (by simp) .refl,g,rfl,Cz ..,CA aw,rfl⟩
def Qg(aw:g.ok I){b:Nat}(ag:I b=some (.cells #[.slice g.a g.n g.c] 30 (0,0))) :
  Iter Tryz.prog 117 [ptr b] I (mJ 0 g.ds):=by
 intro l R nf qX cg M0 qY h';refine wc [] a8 Tryz.func117 rfl rfl rfl ?_;intro B aD;have pP:=aw.n;have lG:=aw.aV.cap;have cj:∀ (M:List aC),cx cg M ((⟨b,0,none⟩:Addr).add 0) 1 [.slice g.a g.n g.c]:=λM=>⟨rfl,_,_,_,.inl (qY _ _ ag),rfl,rfl⟩;refine ba.mk _ (cj _) ?_;refine fh.inv (ι:=Nat×Nat×aG×List aC) (λx=>{ b8:=[(0,.val (.func (.yield l) #[] #[])),(8,.val (.slice g.a g.n g.c)),(9,.val (.int .i64 g.n)),(10,.val (.int .i64 x.1))],dL:=x.2.2.1,fg:=x.2.2.2 }) (λx=>x.1<=g.n/\(∀ b o,I b=some o->x.2.2.1 b=some o)/\R x.2.1 x.2.2.1 x.2.2.2/\x.2.1<=(mJ 0 g.ds).length/\(mJ 0 g.ds).drop x.2.1=mJ x.1 (g.ds.drop x.1)) (λx=>g.n-x.1) ?_ ?_
 ·exact⟨(0,0,cg,M0),⟨by simp,qY,h',by simp,rfl⟩,.refl,ei,.nil⟩
 ·rintro⟨i,k,ct,M1⟩⟨hi,ch,gR,dI,eF⟩;simp only at hi ch gR dI eF;refine a1.mk (λh=>?_) (λh=>?_)
  ·have a0:i<g.n:=by simpa using h
   have cJ:i<g.ds.length:=by omega
   have gp:=aw.mono ch;obtain⟨ad,dH,C5⟩:=gp.aV.row aT.da a0 cJ;have hL:g.ds[i]∈g.ds:=et cJ;have I8:=(aw.ds _ hL).t.n;have Qh:=(aw.ds _ hL).t.aV.cap;have hj:g.ds.drop i=g.ds[i]::g.ds.drop (i+1):=fe cJ;refine c2.mk ad i dH rfl a0 ?_;refine ba.mk _ (C5 _) ?_;refine fh.inv (ι:=Nat×Nat×aG×List aC) (λx=>{ b8:=[(0,.val (.func (.yield l) #[] #[])),(3,.val (.int .i64 i)),(8,.val (.slice g.a g.n g.c)),(9,.val (.int .i64 g.n)),(10,.val (.int .i64 i)),(17,.val (.slice g.ds[i].t.a g.ds[i].t.n g.ds[i].t.c)),(18,.val (.int .i64 g.ds[i].t.n)),(19,.val (.int .i64 x.1))],dL:=x.2.2.1,fg:=x.2.2.2 }) (λx=>x.1<=g.ds[i].t.n/\(∀ b o,I b=some o->x.2.2.1 b=some o)/\R x.2.1 x.2.2.1 x.2.2.2/\x.2.1<=(mJ 0 g.ds).length/\(mJ 0 g.ds).drop x.2.1=(g.ds[i].t.ae.drop x.1).map (λn=>[.int .i64 i,n.val])++mJ (i+1) (g.ds.drop (i+1))) (λx=>g.ds[i].t.n-x.1) ?_ ?_;·refine⟨(0,k,ct,M1),⟨by simp,ch,gR,dI,?_⟩,.refl,qz,.nil⟩;simp only;rw[eF,hj];rfl
   ·rintro⟨j,k,ct,M1⟩⟨ap,ch,gR,dI,eF⟩;simp only at ap ch gR dI eF;refine a1.mk (λh=>?_) (λh=>?_)
    ·have fk:j<g.ds[i].t.n:=by simpa using h
     have hI:j<g.ds[i].t.ae.length:=by omega
     have gp:=aw.mono ch;obtain⟨uy,C6,sg⟩:=(gp.ds _ hL).t.aV.row aH.da fk hI;have bI:g.ds[i].t.ae.drop j=g.ds[i].t.ae[j]::g.ds[i].t.ae.drop (j+1):=fe hI;rw[bI,cC,qK]at eF;obtain⟨aj,af,lT⟩:=drop_cons eF;refine c2.mk uy j C6 rfl fk ?_;refine ba.mk _ (sg _) ?_;refine a9.yield rfl (by simp) rfl rfl ?_;have aE:=qX k aj ct M1 ch gR;rw[af]at aE;refine zm.mk M1 [] _ (by simp) aE ?_;rintro v du cQ hK (⟨rfl,kZ⟩ | ⟨rfl,ab⟩);·refine a1.mk (λh=>by simp at h) (λ_=>?_);refine bp.mk _ (iK (i:=j) (by omega)) ?_;exact⟨(j+1,k+1,du,cQ),⟨⟨by simp only;omega,λb o h=>hK b o (ch b o h),kZ,aj,lT⟩,by simp only;omega⟩,.perm (by simp) .refl,qz,.nil⟩
     ·refine a1.mk (λ_=>?_) (λh=>by simp at h);exact⟨_,_,.perm (by simp) .refl,.inr ab⟩
    ·have eD:g.ds[i].t.n<=j:=by simpa using h
     rw[iZ (show g.ds[i].t.ae.length<=j by omega),lD,lC]at eF;refine bp.mk _ (iK (i:=i) (by omega)) ?_;exact⟨(i+1,k,ct,M1),⟨⟨by simp only;omega,ch,gR,dI,eF⟩,by simp only;omega⟩,.refl,ei,.nil⟩
  ·have eD:g.n<=i:=by simpa using h
   refine⟨_,_,.refl,.inl ?_⟩;rw[iZ (show g.ds.length<=i by omega)]at eF;have sF:k=(mJ 0 g.ds).length:=by have:=B5.1 eF;omega
   rw[<-sF];exact gR
section
variable{X:bO}{β:Nat->Nat}{a:Act}{w:World}{F:Fr}{C:b6}{I:aG}{M:List aC}{o:Oper}{K:dE}
def bE.swap{n:Nat}{jD zO:Obj}{w':World}(h:bE X β a w F C I (⟨n,jD⟩::M))(an:w'.heap.size=w.heap.size)(aF:w'.heap[n]?=some zO)(ag:∀ b,b≠n->w'.heap[b]?=w.heap[b]?)(ar:iS w w'):bE X β a w' F C I (⟨n,zO⟩::M):=by
 have U:=h.HJ an ag ar;have dF:(⟨n,jD⟩:aC)∈(⟨n,jD⟩:aC)::M:=by simp
 have bI:=h.holds.bH;simp only[cC,kB]at bI;have mem:∀ x,x∈(⟨n,zO⟩:aC)::M->x=⟨n,zO⟩\/x∈M:=λx ab=>cU.1 ab;exact {
  size:=U.size
  defers:=by
   obtain⟨aV,ax,aS,b5⟩:=U.defers;obtain⟨Qi,f1,f2,f3⟩:=h.defers;refine⟨aV,ax,aS,λr al=>{ b5 r al with cM:=λx ab=>?_ }⟩;rcases mem x ab with rfl | ab
   ·have ea:aV=Qi:=by
     have:=ax.symm.trans f1;have zP:∀ l bY:List Nat,l.map pj=bY.map pj->l=bY:=by
      intro l
      induction l with
      |nil=>intro bY h;cases bY with
       |nil=>rfl| cons=>simp at h
      |cons y l aX=>intro bY h;cases bY with
       |nil=>simp at h
       |cons z bY=>
        simp only[cC,sI,pj,Deferred.mk.injEq]at h;have aE:y=z:=by simpa using h.1
        rw[aE,aX bY h.2]
     exact zP _ _ this
    subst ea;exact(f3 r al).cM ⟨n,jD⟩ dF
   ·exact(b5 r al).cM x ab
  holds:={
   i:=U.holds.i
   m:=λx ab=>by
    rcases mem x ab with rfl | ab;·exact aF
    ·exact U.holds.m x ab
   d:=λx ab=>by
    rcases mem x ab with rfl | ab;·exact h.holds.d ⟨n,jD⟩ dF
    ·exact U.holds.d x ab
   bH:=by simpa using bI }
  ah:=h.ah
  bq:=λs cs h3=>by
   have m7:=h.bq s cs h3;refine { U.bq s cs h3 with cM:=λx ab=>?_ };rcases mem x ab with rfl | ab;·exact m7.cM ⟨n,jD⟩ dF
   ·exact(U.bq s cs h3).cM x ab
  inj:=h.inj
  eg:=h.eg
  eB:=h.eB
  own:=λx ab=>by
   rcases mem x ab with rfl | ab;·exact h.own ⟨n,jD⟩ dF
   ·exact U.own x ab
  cp:=U.cp
  out:=U.out
  sz:=U.sz }
def k8(l:List (ByteArray×Int)):Nat->List MapEntry
 |i=>match l with
  |[]=>[]| p::l=>{ key:=.string p.1,val:=.int .i64 p.2,born:=i }::k8 l (i+1)
def hM(l:List (ByteArray×Int)):Obj:=.map (k8 l 0).toArray l.length
def e0(s:ByteArray):List (ByteArray×Int)->Option Int
 |[]=>none| p::l=>bif decide (s=p.1)then some p.2 else e0 s l
def Qj(l:List (ByteArray×Int))(p:ByteArray×Int):∀ i,k8 (l++[p]) i=k8 l i++[{ key:=.string p.1,val:=.int .i64 p.2,born:=i+l.length }]:=by
 induction l with
 |nil=>intro i;simp[k8]| cons q l aX=>intro i;simp only[qK,k8,aX,c8,sI,true_and,List.append_cancel_left_eq,MapEntry.mk.injEq,and_true];omega
def bytes_beq(a b:ByteArray):(a == b)=decide (a=b):=by
 rw[rT];simp only[e3];constructor
 ·intro h
  first | exact eq_of_beq h | exact nV (eq_of_beq (a:=a.data) (b:=b.data) h)
 ·rintro rfl
  first | exact vH _ | exact vH a.data
def C7(s:ByteArray):∀ (l:List (ByteArray×Int)) (i j:Nat),∃ r,Instr.findNow .string (.string s) (k8 l i) j=some r/\r.map (·.2)=(e0 s l).map (Value.int .i64)
 |[],i,j=>⟨none,rfl,rfl⟩
 |p::l,i,j=>by
  obtain⟨r,U,aa⟩:=C7 s l (i+1) (j+1);unfold k8 Instr.findNow;simp only[Instr.sameNow,bytes_beq];cases ag:decide (s=p.1)with
  |true=>exact⟨_,rfl,by simp[e0,ag]⟩| false=>exact⟨r,U,by simp only[e0,ag,bj];exact aa⟩
def a9.makeMap(aA:bV X.P X.E){t:Nat}{r:Operand}(ar:o.op=.makeMap t (some r))(ao:∀ d,o.dst=some d->d<X.n){k e:Nat}(aq:X.E t=some cA)(cZ:cA.bc=.map k e)
  {q:IntKind} {n:Int} (al:a' F r=.val (.int q n)) (h:∀ b,K (put o.dst (.val (.map (some b))) F) C I (⟨b,hM []⟩::M)):a9 X o F C I M K:=by
 refine⟨λa w Q ⟨β,aM⟩=>?_⟩;obtain⟨d,dv,dN⟩:=(aA _ _ aq).dr;have U:d=.map k e:=by rw[cZ]at dN;cases d<;>simp_all[dh]
 subst U;have C8:=b1 aM.ah al;refine fC (by rw[ar];simp) (v:=.map (some w.heap.size)) (w':=w.alloc (.map #[] 0)) ?_ ⟨_,_,_,_,⟨β,bE.put (x:=.val (.map (some w.heap.size))) (aM.j1 (hM [])) ao rfl⟩,h _⟩;unfold execOp;simp only[ar,gX,C8];simp[Instr.makeMap,run_underlying dv,asInt,iU]
def a9.lookup(aA:bV X.P X.E){t:Nat}(ar:o.op=.lookup t x y true)(ao:∀ d,o.dst=some d->d<X.n){k e:Nat}(aq:X.E t=some cA)(cZ:cA.bc=.map k e)(aj:X.E k=some w4)(xi:w4.bc=.string)(a2:∀ w,(zeroValue e).run X.P w=.ok (.int .i64 0) w){g:Nat}{l:List (ByteArray×Int)}{s:ByteArray}(ab:a' F x=.val (.map (some g)))(aE:a' F y=.val (.string s))(aZ:(⟨g,hM l⟩:aC)∈M)
  (h:K (put o.dst (.val (.tuple #[.int .i64 ((e0 s l).getD 0),.bool (e0 s l).isSome])) F) C I M):a9 X o F C I M K:=by
 refine⟨λa w Q ⟨β,aM⟩=>?_⟩;obtain⟨d,dv,dN⟩:=(aA _ _ aq).dr;have U:d=.map k e:=by rw[cZ]at dN;cases d<;>simp_all[dh]
 subst U;obtain⟨q7,oA,gn⟩:=(aA _ _ aj).dr;have aa:q7=.string:=by rw[xi]at gn;cases q7<;>simp_all[dh]
 subst aa;have aw:w.heap[g]?=some (.map (k8 l 0).toArray l.length):=aM.holds.m _ aZ;have ex:=b1 aM.ah ab;have nk:=b1 aM.ah aE;obtain⟨r,qp,oB⟩:=C7 s l 0 0;have aB:(Instr.checkKey (k8 l 0).toArray.isEmpty 10000 k (.string s)).run X.P w=.ok () w:=w1 (k:=.string s) oA (by simp[MapKept.IsKey]) _ 9999;have pQ:(Instr.findKey k (.string s) (k8 l 0)).run X.P w=.ok r w:=w2 oA qp;have dg:(Instr.lookup t (.map (some g)) (.string s) true).run X.P w=.ok (.tuple #[.int .i64 ((e0 s l).getD 0),.bool (e0 s l).isSome]) w:=by
  unfold Instr.lookup;simp only[bo,run_underlying dv,bd,w0 aw,bR,aB,pQ];cases r with
  |none=>
   cases au:e0 s l with
   |none=>simp[a2]| some v=>rw[au]at oB;simp at oB
  |some p=>
   cases au:e0 s l with
   |none=>rw[au]at oB;simp at oB| some v=>rw[au]at oB;simp only[gX,hr]at oB;simp[oB]
 refine qn aM ao (by rw[ar];simp) ?_ h;unfold execOp;simp only[ar,ex,nk,bo,dg,bd,bR]
def a9.Qk(aA:bV X.P X.E){t:Nat}{z:Operand}(ar:o.op=.mapUpdate t x y z)(ao:o.dst=none){k e:Nat}(aq:X.E t=some cA)(cZ:cA.bc=.map k e)(aj:X.E k=some w4)(xi:w4.bc=.string)
  {g:Nat} {l:List (ByteArray×Int)} {s:ByteArray} {v:Int} (ab:a' F x=.val (.map (some g))) (aE:a' F y=.val (.string s)) (r7:a' F z=.val (.int .i64 v)) (au:e0 s l=none)
  {Mr:List aC} (aZ:M.Perm (⟨g,hM l⟩::Mr)) (h:K F C I (⟨g,hM (l++[(s,v)])⟩::Mr)):a9 X o F C I M K:=by
 refine⟨λa w Q ⟨β,h'⟩=>?_⟩;have aM:bE X β a w F C I (⟨g,hM l⟩::Mr):=h'.gh (.perm aZ .refl);obtain⟨d,dv,dN⟩:=(aA _ _ aq).dr;have U:d=.map k e:=by rw[cZ]at dN;cases d<;>simp_all[dh]
 subst U;obtain⟨q7,oA,gn⟩:=(aA _ _ aj).dr;have aa:q7=.string:=by rw[xi]at gn;cases q7<;>simp_all[dh]
 subst aa;have aw:w.heap[g]?=some (.map (k8 l 0).toArray l.length):=aM.holds.m ⟨g,hM l⟩ (by simp);have ex:=b1 aM.ah ab;have nk:=b1 aM.ah aE;have C9:=b1 aM.ah r7;obtain⟨r,qp,oB⟩:=C7 s l 0 0;have al:r=none:=by
  rw[au]at oB;cases r with
  |none=>rfl| some _=>simp at oB
 subst al;have aB:(Instr.checkKey false 10000 k (.string s)).run X.P w=.ok () w:=w1 (k:=.string s) oA (by simp[MapKept.IsKey]) _ 9999;have pQ:(Instr.findKey k (.string s) (k8 l 0)).run X.P w=.ok none w:=w2 oA qp;have ej:hM (l++[(s,v)])=.map ((k8 l 0).toArray.push { key:=.string s,val:=.int .i64 v,born:=l.length }) (l.length+1):=by unfold hM;rw[Qj];simp
 have dg:(Instr.mapUpdate t (.map (some g)) (.string s) (.int .i64 v)).run X.P w=.ok () { w with heap:=w.heap.setIfInBounds g (hM (l++[(s,v)])) }:=by unfold Instr.mapUpdate;simp only[bo,run_underlying dv,bd,w0 aw,aB,pQ,CH _ aw,ej]
 have g2:=MapKept.heap_set (o':=hM (l++[(s,v)])) aw;refine tK (by rw[ar];simp) (w':={ w with heap:=w.heap.setIfInBounds g (hM (l++[(s,v)])) }) ?_ ⟨F,C,I,_,⟨β,?_⟩,h⟩
 ·unfold execOp;simp only[ar,ex,nk,C9,bo,dg,bd,bR]
 ·rw[ao];exact aM.swap (by simp) g2.1 g2.2 ⟨rfl,rfl⟩
end
def k9:Nat->List aT->List (Nat×aH)
 |_,[]=>[]| i,d::ds=>d.t.ae.map (λn=>(i,n))++k9 (i+1) ds
def xj:∀ (ds:List aT) (i:Nat),mJ i ds=(k9 i ds).map λp=>[.int .i64 p.1,p.2.val]
 |[],i=>rfl| d::ds,i=>by simp only[mJ,k9,kC,sJ,xj ds (i+1)];rfl
def nA(ds:List aT):Bool:=ds.all λd=>hH d.name&&normal d.t
def il:List (ByteArray×Int)->Nat->List aT->Option (List (ByteArray×Int))
 |acc,_,[]=>some acc| acc,i,d::ds=>bif (e0 d.name acc).isSome then none else il (acc++[(d.name,(i:Int))]) (i+1) ds
def q8(acc:List (ByteArray×Int))(n:aH):Bool:=!decide (n.k=3)||(e0 n.t acc).isSome
def lU(acc:List (ByteArray×Int))(ds:List aT):Bool:=(k9 0 ds).all λp=>q8 acc p.2
def dB(deb:List Int)(g:cO):Int:=
 bif decide ((g.n:Int)=0)then 4 else bif !nA g.ds then 4 else bif mI deb g then 40 else
 match il [] 0 g.ds with
 |none=>6| some acc=>bif lU acc g.ds then 0 else 41
def nB(b:Nat)(e:Int):aC:=⟨b,.cells #[.int .i64 e] 32 (0,0)⟩
def sT{b:Nat}{e:Int}(h:nB b e∈M):cx I M ⟨b,0,none⟩ 1 [.int .i64 e]:=
 ⟨rfl,_,_,_,.inr ⟨_,h,rfl,rfl⟩,rfl,rfl⟩
def I9(w:World):(zeroValue 3).run Tryz.prog w=.ok (.int .i64 0) w:=by
 have h:(Tryz.prog.info? 3).map (λi=>i.zero)=some (some (.int .i64 0)):=by kernel_rfl
 obtain⟨i,U,aa⟩:=nU.1 h;simp[zeroValue,typeInfo,U,aa]
def Ja(bJ:fH I deb)(aw:g.ok I):Spec Tryz.prog 49 [g.val] I [] (λv I' M'=>v=.int .i64 (dB deb g)/\(∀ b o,I b=some o->I' b=some o)/\M'=[]):=by
 refine cB [2,5] a8 Tryz.func49 rfl rfl rfl ?_;intro B aD;have pP:=aw.n;have lG:=aw.aV.cap;refine eA.mk λbU kK XG=>?_;refine a1.mk (λU=>?_) (λU=>?_)
 ·refine df.mk [] [] _ _ rfl rfl (bk rfl) rfl ?_;refine ba.mk _ (sT (b:=bU) (e:=4) (.head _)) ?_;refine⟨_,_,.sub (fa _) .refl,?_,λ_ _ h=>h,rfl⟩;rw[dB,U];rfl
 ·have nZ:g.n≠0:=by simp at U;omega
  refine fh.inv (ι:=Nat) (λi=>{ b8:=[(1,.ref 1 0),(2,.val (ptr bU)),(19,.val (.slice g.a g.n g.c)),(20,.val (.int .i64 g.n)),(21,.val (.int .i64 i))],cl:=[(1,[.slice g.a g.n g.c])],dL:=I,fg:=[nB bU 0] }) (λi=>i<=g.n/\nA (g.ds.take i)=true) (λi=>g.n-i) ?_ ?_;·exact⟨0,⟨by simp,rfl⟩,.refl,m8,.cons rfl .nil⟩
  ·rintro i⟨hi,e'⟩;refine a1.mk (λh=>?_) (λh=>?_)
   ·have a0:i<g.n:=by simpa using h
    have cJ:i<g.ds.length:=by omega
    obtain⟨ad,dH,cj⟩:=aw.aV.row aT.da a0 cJ;have hL:g.ds[i]∈g.ds:=et cJ;have bad:(hH g.ds[i].name&&normal g.ds[i].t)=false->dB deb g=4:=λag=>by
     have:nA g.ds=false:=by unfold nA;rw[CI];exact⟨_,hL,by simp[ag]⟩
     rw[dB,U,this];rfl
    refine c2.mk ad i dH rfl a0 ?_;refine ba.mk _ (cj _) ?_;refine aY.mk [] [nB bU 0] _ (.refl _) (Cn _ g.ds[i].name) ?_;rintro v I' M' -⟨rfl,rfl,rfl⟩;refine b9.mk (λaa=>?_) (λaa=>?_)
    ·have hm:hH g.ds[i].name=true:=by simpa using aa
     refine aY.mk [] [nB bU 0] _ (.refl _) (Qb bJ.c (aw.ds _ hL).t) ?_;rintro v I' M' -⟨rfl,rfl,rfl⟩;refine a1.mk (λak=>?_) (λak=>?_)
     ·have ed:normal g.ds[i].t=false:=by simpa using ak
      refine df.mk [] [] _ _ rfl rfl (bk rfl) rfl ?_;refine ba.mk _ (sT (b:=bU) (e:=4) (.head _)) ?_;refine⟨_,_,.sub (fa _) .refl,?_,λ_ _ h=>h,rfl⟩;rw[bad (by rw[hm,ed];rfl)];rfl
     ·have ed:normal g.ds[i].t=true:=by simpa using ak
      refine bp.mk _ (iK (i:=i) (by omega)) ?_;refine⟨i+1,⟨⟨by omega,?_⟩,by omega⟩,.refl,m8,.cons rfl .nil⟩;unfold nA at e' |-;rw[l7 cJ,zB,e'];simp[hm,ed]
    ·have hm:hH g.ds[i].name=false:=by simpa using aa
     refine df.mk [] [] _ _ rfl rfl (bk rfl) rfl ?_;refine ba.mk _ (sT (b:=bU) (e:=4) (.head _)) ?_;refine⟨_,_,.sub (fa _) .refl,?_,λ_ _ h=>h,rfl⟩;rw[bad (by rw[hm];rfl)];rfl
   ·have eD:g.n<=i:=by simpa using h
    rw[kU (by omega)]at e';refine aY.mk [] [nB bU 0] _ (.refl _) (Qe bJ aw) ?_;rintro v ct M' -⟨rfl,ch,rfl⟩;refine a1.mk (λaa=>?_) (λaa=>?_);·refine df.mk [] [] _ _ rfl rfl (bk rfl) rfl ?_;refine ba.mk _ (sT (b:=bU) (e:=40) (.head _)) ?_;refine⟨_,_,.sub (fa _) .refl,?_,ch,rfl⟩;rw[dB,U,e',aa];rfl
    ·have uz:dB deb g=match il [] 0 g.ds with
       |none=>6| some acc=>bif lU acc g.ds then 0 else 41:=by
      rw[dB,U,e',aa];rfl
     rw[uz];have gp:=aw.mono ch;refine a9.makeMap a8 rfl (by simp) rfl rfl rfl λgA=>?_;refine eA.mk λnC XH XI=>?_;refine df.mk [] [⟨gA,hM []⟩,nB bU 0] _ _ rfl rfl (bk rfl) rfl ?_;refine fh.inv (ι:=Nat×List (ByteArray×Int)) (λx=>{ b8:=[(1,.ref 1 0),(2,.val (ptr bU)),(5,.val (ptr nC)),(43,.val (.slice g.a g.n g.c)),(44,.val (.int .i64 g.n)),(45,.val (.int .i64 x.1))],cl:=[(1,[.slice g.a g.n g.c])],dL:=ct,fg:=[⟨nC,.cells #[.map (some gA)] 142 (0,0)⟩,⟨gA,hM x.2⟩,nB bU 0] }) (λx=>x.1<=g.n/\il [] 0 g.ds=il x.2 x.1 (g.ds.drop x.1)) (λx=>g.n-x.1) ?_ ?_;·exact⟨(0,[]),⟨by simp,rfl⟩,.refl,y4,.cons rfl .nil⟩
     ·rintro⟨i,acc⟩⟨hi,j'⟩;simp only at hi j';refine a1.mk (λh=>?_) (λh=>?_)
      ·have a0:i<g.n:=by simpa using h
       have cJ:i<g.ds.length:=by omega
       obtain⟨ad,dH,cj⟩:=gp.aV.row aT.da a0 cJ;have hj:g.ds.drop i=g.ds[i]::g.ds.drop (i+1):=fe cJ;refine c2.mk ad i dH rfl a0 ?_;refine ba.mk _ (cj _) ?_;refine ba.mk [.map (some gA)] ⟨rfl,_,_,_,.inr ⟨_,.head _,rfl,rfl⟩,rfl,rfl⟩ ?_;refine a9.lookup a8 rfl (by simp) rfl rfl rfl rfl (λw=>I9 w) (l:=acc) (g:=gA) rfl rfl (by simp) ?_;refine a1.mk (λak=>?_) (λak=>?_);·refine df.mk [⟨nC,.cells #[.map (some gA)] 142 (0,0)⟩,⟨gA,hM acc⟩] [] _ _ rfl rfl (bk rfl) rfl ?_;refine ba.mk _ (sT (b:=bU) (e:=6) (.tail _ (.tail _ (.head _)))) ?_;refine⟨_,_,.sub (fa _) .refl,?_,ch,rfl⟩;rw[j',hj,il,ak];rfl
       ·have au:e0 g.ds[i].name acc=none:=by simpa using ak
        refine ba.mk [.map (some gA)] ⟨rfl,_,_,_,.inr ⟨_,.head _,rfl,rfl⟩,rfl,rfl⟩ ?_;refine a9.Qk a8 rfl rfl rfl rfl rfl rfl rfl rfl rfl au (Mr:=[⟨nC,.cells #[.map (some gA)] 142 (0,0)⟩,nB bU 0]) (List.Perm.swap _ _ _) ?_;refine bp.mk _ (iK (i:=i) (by omega)) ?_;refine⟨(i+1,acc++[(g.ds[i].name,(i:Int))]),⟨⟨by simp only;omega,?_⟩,by simp only;omega⟩,.perm (List.Perm.swap _ _ _) .refl,y4,.cons rfl .nil⟩;simp only;rw[j',hj,il,ak];rfl
      ·have Ql:g.n<=i:=by simpa using h
       have dN:il [] 0 g.ds=some acc:=by rw[j',iZ (by omega),il]
       rw[dN];refine aY.mk [] [⟨nC,.cells #[.map (some gA)] 142 (0,0)⟩,⟨gA,hM acc⟩,nB bU 0] _ (.refl _) (Qf g) ?_;rintro v du cQ -⟨bC,rfl,xk,hK,rfl⟩;have jc:=gp.mono hK;have Jb:∀ b o,I b=some o->du b=some o:=λb o h=>hK _ _ (ch _ _ h);refine dt.range a8 rfl rfl rfl .refl (Qg jc xk) (λvs h=>?_) (λk I' M'=>(∀ b o,du b=some o->I' b=some o)/\((k9 0 g.ds).take k).all (λp=>q8 acc p.2)=true/\M'=[⟨nC,.cells #[.map (some gA)] 142 (0,0)⟩,⟨gA,hM acc⟩,nB bU 0]) (λex I' M'=>ex=.ret/\(∀ b o,du b=some o->I' b=some o)/\lU acc g.ds=false/\M'=[⟨nC,.cells #[.map (some gA)] 142 (0,0)⟩,⟨gA,hM acc⟩,nB bU 41]) ⟨λ_ _ h=>h,rfl,rfl⟩ ?_ ?_ ?_;·rw[xj]at h;obtain⟨p,_,rfl⟩:=dw.1 h;rfl
       ·rintro k aj I' M' -⟨fY,bm,rfl⟩l B aD hE;have Jc:k<(k9 0 g.ds).length:=by simpa[xj]using aj
        generalize aK:(k9 0 g.ds)[k]=p;have af:(mJ 0 g.ds)[k]=[.int .i64 p.1,p.2.val]:=by simp only[xj,sk,aK]
        rw[af];have next:q8 acc p.2=true->((k9 0 g.ds).take (k+1)).all (λp=>q8 acc p.2)=true:=λh=>by rw[l7 Jc,zB,bm,aK];simp[h]
        refine a1.mk (λak=>?_) (λak=>?_)
        ·refine⟨_,_,.refl,fY,next ?_,rfl⟩;have iL:decide (p.2.k=3)=false:=by simpa using ak
         simp[q8,iL]
        ·have iL:decide (p.2.k=3)=true:=by simpa using ak
         refine ba.mk [.map (some gA)] ⟨rfl,_,_,_,.inr ⟨_,.head _,rfl,rfl⟩,rfl,rfl⟩ ?_;refine a9.lookup a8 rfl (by simp) rfl rfl rfl rfl (λw=>I9 w) (l:=acc) (g:=gA) rfl rfl (by simp) ?_;refine a1.mk (λaL=>?_) (λaL=>?_)
         ·refine df.mk [⟨nC,.cells #[.map (some gA)] 142 (0,0)⟩,⟨gA,hM acc⟩] [] _ _ rfl rfl (bk rfl) rfl ?_;refine⟨_,_,.refl,rfl,fY,?_,rfl⟩;unfold lU;rw[CI];have Da:(e0 p.2.t acc).isSome=false:=by simpa using aL
          exact⟨p,by rw[<-aK];exact et Jc,by simp[q8,iL,Da]⟩
         ·have Da:(e0 p.2.t acc).isSome=true:=by simpa using aL
          exact⟨_,_,.refl,fY,next (by simp[q8,Da]),rfl⟩
       ·rintro I' M' -⟨fY,bm,rfl⟩;have Db:lU acc g.ds=true:=by unfold lU;rw[kU (by simp[xj])]at bm;exact bm
        refine df.mk [⟨nC,.cells #[.map (some gA)] 142 (0,0)⟩,⟨gA,hM acc⟩] [] _ _ rfl rfl (bk rfl) rfl ?_;refine ba.mk _ (sT (b:=bU) (e:=0) (.tail _ (.tail _ (.head _)))) ?_;refine⟨_,_,.sub (fa _) .refl,?_,λb o h=>fY _ _ (Jb _ _ h),rfl⟩;simp only[Db];rfl
       ·rintro ex I' M' -⟨rfl,fY,Db,rfl⟩;refine⟨by simp,?_⟩;refine ba.mk _ (sT (b:=bU) (e:=41) (.tail _ (.tail _ (.head _)))) ?_;refine⟨_,_,.sub (fa _) .refl,?_,λb o h=>fY _ _ (Jb _ _ h),rfl⟩;simp only[Db];rfl
structure oC where
 a:Option Addr
 n:Nat
 c:Nat
 l:List Int
def oC.val(r:oC):Value:=.slice r.a r.n r.c
structure oC.ok(I:aG)(r:oC):Prop where
 aV:ee I r.a r.n r.c 1 8 (r.l.map (.int .i64 ·))
def oC.ok.n{r:oC}(h:r.ok I):r.l.length=r.n:=by have:=h.aV.len;simpa using this
def oC.ok.mono{r:oC}(h:r.ok I)(a7:∀ b o,I b=some o->I' b=some o):r.ok I':=⟨h.aV.mono a7⟩
structure q9 where
 rows:List oC
 a:Option Addr
 n:Nat
 c:Nat
def q9.val(x:q9):Value:=.slice x.a x.n x.c
structure q9.ok(I:aG)(x:q9):Prop where
 aV:ee I x.a x.n x.c 1 24 (x.rows.map oC.val)
 rows:∀ r∈x.rows,r.ok I
def q9.ok.n{x:q9}(h:x.ok I):x.rows.length=x.n:=by have:=h.aV.len;simpa using this
def q9.ok.mono{x:q9}(h:x.ok I)(a7:∀ b o,I b=some o->I' b=some o):x.ok I':=⟨h.aV.mono a7,λr al=>(h.rows r al).mono a7⟩
def xl:bh:=⟨none,0,0,[]⟩
def Dc(size:Nat):xl.ok size []:=⟨by simp[xl],λ_=>⟨rfl,rfl⟩,λg h=>by cases h⟩
structure oD where
 a:Option Addr
 n:Nat
 c:Nat
 l:List Bool
def oD.val(r:oD):Value:=.slice r.a r.n r.c
structure oD.ok(I:aG)(r:oD):Prop where
 aV:ee I r.a r.n r.c 1 1 (r.l.map Value.bool)
def oD.ok.n{r:oD}(h:r.ok I):r.l.length=r.n:=by have:=h.aV.len;simpa using this
def oD.ok.mono{r:oD}(h:r.ok I)(a7:∀ b o,I b=some o->I' b=some o):r.ok I':=⟨h.aV.mono a7⟩
def ki(m:List Bool)(k:Nat):Prop:=m.getD k false=true
def oE(m:List Bool)(o:List Int):List Int->List Bool×List Int
 |[]=>(m,o)| k::ks=>bif m.getD k.toNat false then oE m o ks else oE (m.set k.toNat true) (o++[k]) ks
def pR:List Bool->Nat
 |[]=>0| b::s=>(bif b then 0 else 1)+pR s
def Jd:∀ (m:List Bool) (k:Nat),k<m.length->m.getD k false=false->pR (m.set k true)+1=pR m
 |b::m,0,_,h=>by
  have:b=false:=by simpa using h
  subst this;simp[pR];omega
 |b::m,k+1,aj,h=>by have:=Jd m k (by simpa using aj) (by simpa using h);simp only[List.set_cons_succ,pR];omega
def Dd{m:List Bool}{k a:Nat}(aj:k<m.length):ki (m.set k true) a ↔ a=k\/ki m a:=by
 unfold ki;simp only[c1,kV];by_cases e:k=a
 ·subst e;simp[aj]
 ·rw[cd e];constructor
  ·exact .inr
  ·rintro(h | h)
   ·exact(e h.symm).elim
   ·exact h
def valid(n:Nat)(l:List Int):Prop:=∀ k∈l,0<=k/\k<n
structure Qm(m:List Bool)(o ks:List Int)(r:List Bool×List Int):Prop where
 len:r.1.length=m.length
 mono:∀ a,ki m a->ki r.1 a
 all:∀ k∈ks,ki r.1 k.toNat
 only:∀ a,ki r.1 a->ki m a\/((a:Int)∈ks/\(a:Int)∈r.2)
 h4:∀ k∈o,k∈r.2
 news:∀ k∈r.2,k∈o\/(k∈ks/\ki r.1 k.toNat)
 zH:2*pR r.1+r.2.length<=2*pR m+o.length
def De{n:Nat}:∀ (ks:List Int) (m:List Bool) (o:List Int),m.length=n->valid n ks->Qm m o ks (oE m o ks)
 |[],m,o,_,_=>⟨rfl,λ_ h=>h,λk aj=>by simp at aj,λa h=>.inl h,λk h=>h,λk h=>.inl h,cK _⟩
 |k::ks,m,o,hm,af=>by
  have aj:=af k (by simp);have hz:valid n ks:=λx ab=>af x (by simp[ab]);have dI:k.toNat<m.length:=by omega
  unfold oE;cases ag:m.getD k.toNat false with
  |true=>
   have h:=De ks m o hm hz;simp only[bn];refine⟨h.len,h.mono,λx ab=>?_,λa aN=>?_,h.h4,λx ab=>?_,h.zH⟩
   ·rcases cU.1 ab with rfl | ab
    ·exact h.mono _ ag
    ·exact h.all x ab
   ·rcases h.only a aN with U | U
    ·exact .inl U
    ·exact .inr ⟨by simp[U.1],U.2⟩
   ·rcases h.news x ab with U | U
    ·exact .inl U
    ·exact .inr ⟨by simp[U.1],U.2⟩
  |false=>
   have h:=De ks (m.set k.toNat true) (o++[k]) (by simpa using hm) hz;have an:=Jd m k.toNat dI ag;have Je:ki (oE (m.set k.toNat true) (o++[k]) ks).1 k.toNat:=h.mono _ ((Dd dI).2 (.inl rfl));have Qn:k∈(oE (m.set k.toNat true) (o++[k]) ks).2:=h.h4 k (by simp);simp only[bj];refine⟨by rw[h.len];simp,λa aN=>h.mono a ((Dd dI).2 (.inr aN)),λx ab=>?_,λa aN=>?_,λx ab=>h.h4 x (by simp[ab]),λx ab=>?_,?_⟩
   ·rcases cU.1 ab with rfl | ab
    ·exact Je
    ·exact h.all x ab
   ·rcases h.only a aN with U | U
    ·rcases(Dd dI).1 U with rfl | U
     ·have e:((k.toNat:Nat):Int)=k:=by omega
      rw[e];exact .inr ⟨by simp,Qn⟩
     ·exact .inl U
    ·exact .inr ⟨by simp[U.1],U.2⟩
   ·rcases h.news x ab with U | U
    ·simp only[c9,ju]at U;rcases U with U | rfl
     ·exact .inl U
     ·exact .inr ⟨by simp,Je⟩
    ·exact .inr ⟨by simp[U.1],U.2⟩
   ·have:=h.zH;simp only[cP,c8,gP]at this;omega
inductive Comes(L:List (List Int))(i:Nat):Nat->Prop
 |self:Comes L i i| next {a k:Nat} (h:Comes L i a) (aj:(k:Int)∈L.getD a []):Comes L i k
structure Df(L:List (List Int))(i:Nat)(m:List Bool)(o:List Int):Prop where
 len:m.length=L.length
 val:valid L.length o
 Jf:∀ k∈o,ki m k.toNat
 cl:∀ a,ki m a->(a:Int)∈o\/∀ k∈L.getD a [],ki m k.toNat
 Jg:∀ a,ki m a->Comes L i a
 self:ki m i
def Df.step(cN:∀ l∈L,valid L.length l){i:Nat}{m:List Bool}{o:List Int}{w:Int}(h:Df L i m (o++[w])) :
  Df L i (oE m o (L.getD w.toNat [])).1 (oE m o (L.getD w.toNat [])).2/\2*pR (oE m o (L.getD w.toNat [])).1+(oE m o (L.getD w.toNat [])).2.length<2*pR m+(o++[w]).length:=by
 have hw:=h.val w (by simp);have Jh:w.toNat<L.length:=by omega
 have Qo:L.getD w.toNat []=L[w.toNat]:=by simp[c1,Jh]
 have af:valid L.length (L.getD w.toNat []):=by rw[Qo];exact cN _ (et Jh)
 have v:=De (L.getD w.toNat []) m o h.len af;have Cs:=h.Jf w (by simp);have Qp:=h.Jg _ Cs;refine⟨⟨v.len.trans h.len,λk aj=>?_,λk aj=>?_,λa aN=>?_,λa aN=>?_,v.mono _ h.self⟩,?_⟩
 ·rcases v.news k aj with U | U
  ·exact h.val k (by simp[U])
  ·exact af k U.1
 ·rcases v.news k aj with U | U
  ·exact v.mono _ (h.Jf k (by simp[U]))
  ·exact U.2
 ·rcases v.only a aN with U | U
  ·rcases h.cl a U with aa | aa
   ·simp only[c9,ju]at aa;rcases aa with aa | aa
    ·exact .inl (v.h4 _ aa)
    ·have e:a=w.toNat:=by omega
     subst e;exact .inr v.all
   ·exact .inr λk aj=>v.mono _ (aa k aj)
  ·exact .inl U.2
 ·rcases v.only a aN with U | U
  ·exact h.Jg a U
  ·exact .next Qp U.1
 ·have:=v.zH;simp only[cP,c8,gP];omega
def Ji(R:List (List Bool))(i k:Nat):Bool:=(R.getD i []).getD k false
def Dg(R:List (List Bool))(i k:Nat):Prop:=Ji R i k=true/\Ji R k i=true
def Dg.symm{R:List (List Bool)}{i j:Nat}(h:Dg R i j):Dg R j i:=⟨h.2,h.1⟩
def Comes.trans{i j k:Nat}(U:Comes L i j)(aa:Comes L j k):Comes L i k:=by
 induction aa with
 |self=>exact U| next _ aj aX=>exact .next aX aj
structure uA where
 rows:List oD
 a:Option Addr
 n:Nat
 c:Nat
def uA.val(x:uA):Value:=.slice x.a x.n x.c
structure uA.ok(I:aG)(x:uA):Prop where
 aV:ee I x.a x.n x.c 1 24 (x.rows.map oD.val)
 rows:∀ r∈x.rows,r.ok I
def uA.ok.mono{x:uA}(h:x.ok I)(a7:∀ b o,I b=some o->I' b=some o):x.ok I':=⟨h.aV.mono a7,λr al=>(h.rows r al).mono a7⟩
def k'(W:World):aG:=λb=>W.heap[b]?
def Qq(W:World):cL (k' W) [] W:=⟨λb o h=>h,(λx ab=>by cases ab),(λx ab=>by cases ab),tG⟩
structure sU(W gy:World):Prop where
 cp:∀ b,b<W.heap.size->gy.heap[b]?=W.heap[b]?
 sz:W.heap.size<=gy.heap.size
 out:iS W gy
def Qr{post:Value->aG->List aC->Prop}(h:ql P f args (k' W) [] post) :
  Calls P f args.toArray W λe gy=>∃ v,e=.returned v/\(∃ I' M',post v I' M')/\sU W gy:=by
 refine(h.2 W (Qq W)).mono ?_;rintro e gy⟨v,I',M',rfl,aK,_,dy⟩;exact⟨v,rfl,⟨I',M',aK⟩,λb ag=>dy.cp b ag (λy aE=>by cases aE),dy.sz,dy.out⟩
def sU.kept(h:sU W gy)(may:MemPlace->Prop):W.keptBut gy may:=by
 refine⟨h.out.1,h.out.2,λi hi=>?_⟩;rw[h.cp i hi];cases W.heap[i]? with
 |none=>rfl| some o=>cases o<;>simp
def sU.frozen(h:sU W gy){a:Addr}(aN:a.block<W.heap.size):gy.frozen? a=W.frozen? a:=by unfold World.frozen?;rw[h.cp _ aN]
variable{H:Type}{enc:TypeId×Value->H}{P:Program}
def Qs{f:Func}{s:ChangeSpec}{apart fresh handsOn again:Bool}{args:Array Value}{ds gs:List (DataW H)}{before pa pv:List MemPlace}(e8:DataW.Whole enc P f.params.toList s.vars apart W args.toList ds gs before)(xm:∀ (b:Nat) (c5:Nat->Bool) (ao:Bool),DataW.TrodAll enc P gy b c5 ao f.resultTypes.toList (v.resultList f.resultTypes.size) (s.fn H (ds++gs)).results [])(hN:∀ c5:Nat->Bool,(∀ p∈before,c5 p.block=true)->DataW.TrodAll enc P gy 0 c5 true f.params.toList args.toList (s.fn H (ds++gs)).args pa)(Jj:∀ c5:Nat->Bool,(∀ p∈before,c5 p.block=true)->DataW.TrodVars enc P gy c5 s.vars (s.fn H (ds++gs)).vars pv)(uB:before=pa++pv)(aj:sU W gy)(bm:∀ (j:Nat) (t:TypeId) (r:Value),f.resultTypes[j]?=some t->(v.resultList f.resultTypes.size)[j]?=some r->Value.okWide P gy .any 0 t r) :
  s.post enc P f apart fresh handsOn again W args v gy:=by
 have hold:∀ p∈before,(λb=>decide (b<W.heap.size)) p.block=true:=λp aK=>by simpa using e8.lt p aK
 have a0:∀ p∈before,p.block<W.heap.size:=λp aK=>e8.lt p aK;refine⟨ds,gs,before,[],pa,pv,e8,xm _ _ _,hN _ hold,Jj _ hold,World.keptBut_mono (λp aK=>⟨aK,?_⟩) (aj.kept (·∈before)),λ_=>?_⟩
 ·rw[uB,c9]at aK;exact Or.inr aK
 ·obtain⟨_,_,_,_,_,a2,aF⟩:=e8;refine⟨bm,_,_,([]++pa)++pv,⟨[]++pa,pv,ChangeShapes.trodAll_append (hN _ (λ_ _=>rfl)) (xm _ _ _),Jj _ (λ_ _=>rfl),rfl,?_,?_⟩,?_⟩
  ·intro b off aK;have zQ:MemPlace.cell b off∈before:=by rw[uB];simpa using aK
   rw[aj.frozen (a:=⟨b,off,none⟩) (a0 _ zQ)];exact a2 b off zQ
  ·intro aN;have:=aF aN;rw[uB]at this;simpa using this
  ·intro p aK _;rw[uB];simpa using aK
def pS:DataW H->Option Value
 | .lit (.int k z)=>some (.int k z)| .lit (.string l)=>some (.string ⟨l.toArray⟩)| .lit (.bool b)=>some (.bool b)| _=>none
def xn(P:Program)(e:TypeId):Bool:=match P.underlying e with
 |some .bool | some (.int _) | some .string=>true| _=>false
section
variable{w:World}{base:Nat}{c5:Nat->Bool}{held:Bool}{ca:Nat}{t e:TypeId}{cs:List Value}{d:DataW H}{p:List MemPlace}
def Jk(he:xn P e=true)(h:DataW.trod enc P w base c5 held ca e cs=some (d,p))(af:pS d=some v):cs=[v]:=by
 unfold xn at he;split at he
 ·rename_i hu;obtain⟨b,rfl,ab⟩:=DataW.trod_bool hu h;cases ab;simpa[pS]using af
 ·rename_i k hu;obtain⟨n,rfl,ab,_⟩:=DataW.trod_int hu h;cases ab;simpa[pS]using af
 ·rename_i hu;obtain⟨s,rfl,ab,_⟩:=CJ hu h;cases ab;simpa[pS]using af
 ·cases he
def zR{α β:Type}{f:α->Option β}:∀ {l:List α} {r:List β},l.mapM f=some r->r.length=l.length/\∀ i (h:i<l.length) (aP:i<r.length),f l[i]=some r[i]
 |[],r,h=>by simp at h;subst h;exact⟨rfl,λi h=>by simp at h⟩
 |x::l,r,h=>by
  simp only[vK,Option.bind_eq_bind,Bm,Option.pure_def,hr]at h;obtain⟨b,ag,kM,eR,rfl⟩:=h;obtain⟨U,aa⟩:=zR eR;refine⟨by simp[U],λi hi cr=>?_⟩;cases i with
  |zero=>simpa using ag| succ i=>simpa using aa i (by simpa using hi) (by simpa using cr)
def Jl(au:cs.length=vs.length)(h:∀ i (hi:i<vs.length),(cs.drop i).take 1=[vs[i]]):cs=vs:=by apply B6 au;intro i U aa;have:=h i aa;rw[fe U,pC,pE]at this;simpa using this
def Jm{n:Nat}(aq:P.underlying t=some (.array n e))(he:xn P e=true)(xo:P.cellsOf e=1)(ey:P.cellsOf t=n){ds:List (DataW H)}(h:DataW.trod enc P w base c5 held ca t cs=some (.agg ds,p))(af:ds.mapM pS=some vs):cs=vs:=by
 obtain⟨xs,m,rfl,ab,au,jJ,hi⟩:=CL aq h;have e1:ds=xs.map (·.1):=by have:=congrArg Prod.fst ab;simpa using this
 obtain⟨aI,aQ⟩:=zR af;have lV:vs.length=n:=by rw[aI,e1];simpa using jJ
 refine Jl (by rw[au,ey,lV]) λi cr=>?_;have U:=hi i (by omega);rw[xo,mr]at U;have nD:i<xs.length:=by omega
 rw[h8 nD]at U;have aa:=aQ i (by rw[e1];simpa using nD) cr;have ak:ds[i]'(by rw[e1];simpa using nD)=xs[i].1:=by simp[e1]
 rw[ak]at aa;exact Jk he (d:=xs[i].1) (p:=xs[i].2) U aa
def Qt(aq:P.underlying t=some (.struct bB))(az:∀ (i:Nat) (f:Field),bB[i]?=some f->xn P f.type=true/\f.offset=i/\P.cellsOf f.type=1)(ey:P.cellsOf t=bB.size){ds:List (DataW H)}(h:DataW.trod enc P w base c5 held ca t cs=some (.agg ds,p))(af:ds.mapM pS=some vs):cs=vs:=by
 obtain⟨xs,m,rfl,ab,au,jJ,hi⟩:=DataW.trod_struct aq h;have e1:ds=xs.map (·.1):=by have:=congrArg Prod.fst ab;simpa using this
 obtain⟨aI,aQ⟩:=zR af;have lV:vs.length=bB.size:=by rw[aI,e1];simpa using jJ
 refine Jl (by rw[au,ey,lV]) λi cr=>?_;have Jn:i<bB.size:=by omega
 obtain⟨cH,cz,eZ⟩:=az i bB[i] (Bl Jn);have U:=hi i bB[i] (Bl Jn);rw[cz,eZ]at U;have nD:i<xs.length:=by omega
 rw[h8 nD]at U;have aa:=aQ i (by rw[e1];simpa using nD) cr;have ak:ds[i]'(by rw[e1];simpa using nD)=xs[i].1:=by simp[e1]
 rw[ak]at aa;exact Jk cH (d:=xs[i].1) (p:=xs[i].2) U aa
def Jo{sz:Nat}:∀ (rows:List (List Value)) (cs:List Value),cs.length=rows.length*sz->(∀ i (hi:i<rows.length),(cs.drop (i*sz)).take sz=rows[i])->cs=rows.flatten
 |[],cs,au,_=>h7 (by simpa using au)
 |r::rows,cs,au,h=>by
  have aD:=h 0 (by simp);simp only[sm,List.drop_zero,si]at aD;rw[c8,h9,sp]at au;have aX:=Jo (sz:=sz) rows (cs.drop sz) (by rw[pD];omega) λi hi=>by have:=h (i+1) (by simpa using hi);rw[B8,show sz+i*sz=(i+1)*sz from by rw[h9];omega];simpa using this
  rw[CK,<-aX,<-aD,qH]
def Qu{n:Nat}(aq:P.underlying t=some (.array n e))(xo:P.cellsOf e=sz)(ey:P.cellsOf t=n*sz){ds:List (DataW H)}(h:DataW.trod enc P w base c5 held ca t cs=some (.agg ds,p))(al:rows.length=ds.length)
  (fA:∀ i (hi:i<ds.length) (cr:i<rows.length) ca cs p,DataW.trod enc P w base c5 held ca e cs=some (ds[i],p)->cs=rows[i]):cs=rows.flatten:=by
 obtain⟨xs,m,rfl,ab,au,jJ,hi⟩:=CL aq h;have e1:ds=xs.map (·.1):=by have:=congrArg Prod.fst ab;simpa using this
 have mC:rows.length=n:=by rw[al,e1];simpa using jJ
 refine Jo (sz:=sz) rows cs (by rw[au,ey,mC]) λi cr=>?_;have U:=hi i (by omega);rw[xo]at U;have nD:i<xs.length:=by omega
 rw[h8 nD]at U;have ak:ds[i]'(by rw[e1];simpa using nD)=xs[i].1:=by simp[e1]
 exact fA i (by rw[e1];simpa using nD) cr m _ xs[i].2 (by rw[ak];exact U)
def Jp(d:DataW H):Option (List Value):=match d with
 | .agg l=>l.mapM pS| _=>none
def Dh{n:Nat}(aq:P.underlying t=some (.array n e))(xo:P.cellsOf e=sz)(ey:P.cellsOf t=n*sz){ds:List (DataW H)}(h:DataW.trod enc P w base c5 held ca t cs=some (.agg ds,p))(al:ds.mapM Jp=some rows)
  (fA:∀ ca cs p l row,DataW.trod enc P w base c5 held ca e cs=some (.agg l,p)->l.mapM pS=some row->cs=row):cs=rows.flatten:=by
 obtain⟨aI,aQ⟩:=zR al;refine Qu aq xo ey h aI λi hi cr ca cs p aP=>?_;have aa:=aQ i hi cr;unfold Jp at aa;split at aa
 ·rename_i l au;rw[au]at aP;exact fA _ _ _ _ _ aP aa
 ·cases aa
end
end Go.V
namespace Go.V
open Go Go.Proofs
variable{d:aH}{P:Program}{t:cc}{x y:Operand}{I I':aG}{deb:List Int}{g:cO}{w:Bool}{F:Fr}{C:b6}{M:List aC}{vs args cs:List Value}{K:Value->aG->List aC->Prop}{α:Type}{X:bO}{c f sz size ca base src dst:Nat}{cA w4 av w5:cF}{v:Value}{L:List (List Int)}{W gy:World}{bB:Array Field}{rows:List (List Value)}{p:List MemPlace}{pl:List (ByteArray×Int)}{bA:List Nat}
def zS{n:String}{g:Nat}{cs:Array Value}(aw:P.globalNamed n=some g)(h:W.var? P n=some cs):∃ T ah,W.heap[g]?=some (.cells cs T ah):=by
 simp only[World.var?,aw,Option.bind_some]at h;split at h
 ·rename_i c T ah b7;cases h;exact⟨T,ah,b7⟩
 ·cases h
def fp:List Int:=[0,1,56,2,57,49,28,3,61,58,42,50,38,29,17,4,62,47,59,36,45,43,51,22,53,39,33,30,24,18,12,5,63,55,48,27,60,41,37,16,46,35,44,21,52,32,23,11,54,26,40,15,34,20,31,10,25,14,19,9,13,8,7,6]
def Qv{rest:List (String×DataW Unit)}(h:laidMet Tryz.prog ([("math/bits.deBruijn32tab",YtelfblhcphnbmaaGreatDoor.Rows.laid_math_bits_deBruijn32tab),("math/bits.deBruijn64tab",YtelfblhcphnbmaaGreatDoor.Rows.laid_math_bits_deBruijn64tab),("internal/strconv.uint64pow10",YtelfblhcphnbmaaGreatDoor.Rows.laid_internal_strconv_uint64pow10),("bonsai/tree.counts",YtelfblhcphnbmaaGreatDoor.Rows.laid_bonsai_tree_counts),("bonsai/print.counts",YtelfblhcphnbmaaGreatDoor.Rows.laid_bonsai_print_counts),("bonsai/print.signs",YtelfblhcphnbmaaGreatDoor.Rows.laid_bonsai_print_signs)]++rest) W):fH (k' W) fp:=by
 obtain⟨ps,cN,_⟩:=h;obtain⟨aI,t1,XJ,f1,wU,eL,gp,CZ,tS,eF,cN,_⟩:=cN;obtain⟨aQ,t2,Qw,f2,wV,eV,jc,oy,n1,lT,cN,_⟩:=cN;obtain⟨bG,t3,XK,f3,Qx,fW,je,XL,Qy,zT,cN,_⟩:=cN;obtain⟨eU,t4,Qz,f4,QA,g4,pO,Di,QB,QC,cN,_⟩:=cN;obtain⟨nj,t5,QD,f5,XM,XN,Jq,QE,QF,QG,cN,_⟩:=cN;obtain⟨zU,t6,QH,f6,XO,XP,Jr,QI,QJ,QK,cN,_⟩:=cN;obtain rfl:=lM ((show Tryz.prog.globalNamed "math/bits.deBruijn64tab" = some 6 by kernel_rfl).symm.trans jc)
 obtain rfl:=lM ((show(Tryz.prog.globals[6]?).map (·.type)=some 309 by kernel_rfl).symm.trans oy);obtain rfl:=lM ((show Tryz.prog.globalNamed "bonsai/tree.counts" = some 0 by kernel_rfl).symm.trans pO)
 obtain rfl:=lM ((show(Tryz.prog.globals[0]?).map (·.type)=some 218 by kernel_rfl).symm.trans Di);obtain rfl:=lM ((show Tryz.prog.globalNamed "bonsai/print.counts" = some 3 by kernel_rfl).symm.trans Jq)
 obtain rfl:=lM ((show(Tryz.prog.globals[3]?).map (·.type)=some 304 by kernel_rfl).symm.trans QE);obtain rfl:=lM ((show Tryz.prog.globalNamed "bonsai/print.signs" = some 1 by kernel_rfl).symm.trans Jr)
 obtain rfl:=lM ((show(Tryz.prog.globals[1]?).map (·.type)=some 269 by kernel_rfl).symm.trans QI);obtain⟨sM,uC,bU⟩:=zS jc n1;obtain⟨CY,zV,jj⟩:=zS pO QB;obtain⟨QL,QM,nC⟩:=zS Jq QF;obtain⟨QN,QO,cE⟩:=zS Jr QJ;have fF:Qw.toList=fp.map (Value.int .u8):=Jm (show Tryz.prog.underlying 309=some (.array 64 5) by kernel_rfl) (by kernel_rfl) (by kernel_rfl) (by kernel_rfl) lT (by kernel_rfl);have zW:Qz.toList=k0.map (Value.int .i64):=Dh (n:=10) (sz:=2) (show Tryz.prog.underlying 218=some (.array 10 126) by kernel_rfl) (by kernel_rfl) (by kernel_rfl) QC (rows:=[[.int .i64 0,.int .i64 0],[.int .i64 0,.int .i64 0],[.int .i64 0,.int .i64 0],[.int .i64 0,.int .i64 0],[.int .i64 2,.int .i64 (-1)],[.int .i64 2,.int .i64 (-1)],[.int .i64 1,.int .i64 1],[.int .i64 1,.int .i64 1],[.int .i64 1,.int .i64 1],[.int .i64 1,.int .i64 1]]) (by kernel_rfl) (λ_ _ _ _ _ U aa=>Jm (show Tryz.prog.underlying 126=some (.array 2 3) by kernel_rfl) (by kernel_rfl) (by kernel_rfl) (by kernel_rfl) U aa);have fields:∀ {t:TypeId},(match Tryz.prog.underlying t with
   |some (.struct bB)=>decide (Tryz.prog.cellsOf t=bB.size)&&(List.range bB.size).all λi=>match bB[i]? with
    |some f=>xn Tryz.prog f.type&&(decide (f.offset=i)&&decide (Tryz.prog.cellsOf f.type=1))| none=>false
   |_=>false)=true->∀ (ca:Nat) (cs:List Value) (p:List MemPlace) (l:List (DataW Unit)) (row:List Value),DataW.trod (λ_=>()) Tryz.prog W 0 (λ_=>true) false ca t cs=some (.agg l,p)->l.mapM pS=some row->cs=row:=by
  intro t aB ca cs p l row U aa;split at aB;·rename_i bB hu;simp only[bs,e3,eO,jY]at aB;refine Qt hu (λi f az=>?_) aB.1 U aa;have hi:=aB.2 i (hU.1 az).1;rw[az]at hi;simpa using hi
  ·cases aB
 have zX:QD.toList=w7:=Dh (n:=3) (sz:=3) (show Tryz.prog.underlying 304=some (.array 3 303) by kernel_rfl) (by kernel_rfl) (by kernel_rfl) QG (rows:=[[.int .i64 0,.int .i64 1,.string ⟨#[63]⟩],[.int .i64 0,.int .i64 (-1),.string ⟨#[42]⟩],[.int .i64 1,.int .i64 (-1),.string ⟨#[43]⟩]]) (by kernel_rfl) (fields (by kernel_rfl));have Js:QH.toList=nt.map λl=>Value.string (strOf l):=Dh (n:=10) (sz:=3) (show Tryz.prog.underlying 269=some (.array 10 268) by kernel_rfl) (by kernel_rfl) (by kernel_rfl) QK (rows:=[[.string ⟨#[]⟩,.string ⟨#[]⟩,.string ⟨#[]⟩],[.string ⟨#[]⟩,.string ⟨#[]⟩,.string ⟨#[]⟩],[.string ⟨#[]⟩,.string ⟨#[]⟩,.string ⟨#[]⟩],[.string ⟨#[]⟩,.string ⟨#[]⟩,.string ⟨#[]⟩],[.string ⟨#[]⟩,.string ⟨#[32]⟩,.string ⟨#[]⟩],[.string ⟨#[]⟩,.string ⟨#[32,47,32]⟩,.string ⟨#[]⟩],[.string ⟨#[]⟩,.string ⟨#[]⟩,.string ⟨#[]⟩],[.string ⟨#[38]⟩,.string ⟨#[]⟩,.string ⟨#[]⟩],[.string ⟨#[33]⟩,.string ⟨#[]⟩,.string ⟨#[]⟩],[.string ⟨#[60]⟩,.string ⟨#[]⟩,.string ⟨#[62]⟩]]) (by kernel_rfl) (fields (by kernel_rfl));have arr:∀ {cs:Array Value} {l:List Value},cs.toList=l->cs=l.toArray:=λh=>by apply dT;simpa using h
 refine⟨⟨CY,zV,?_⟩,⟨QL,QM,?_⟩,⟨QN,QO,?_⟩,by decide,by decide,sM,uC,?_⟩
 ·rw[<-arr zW];exact jj
 ·rw[<-arr zX];exact nC
 ·rw[<-arr Js];exact cE
 ·rw[<-arr fF];exact bU
def uD(cs:Array Value):Obj->Obj
 | .cells _ t ah=>.cells cs t ah| o=>o
def QP:List Int:=(List.range 20).map λi=>(10:Int)^i
def QQ:List Int:=[0,1,28,2,29,14,24,3,30,22,20,15,25,17,4,8,31,27,13,23,21,19,16,7,26,12,18,6,11,5,10,9]
noncomputable def Dj(os:Os):World:=
 { World.holding Tryz.prog os ⟨#[],#[],[]⟩with heap:=((((((World.holding Tryz.prog os ⟨#[],#[],[]⟩).heap.modify 0 (uD (k0.map (Value.int .i64)).toArray)).modify 3 (uD w7.toArray)).modify 1 (uD (nt.map λl=>Value.string (strOf l)).toArray)).modify 6 (uD (fp.map (Value.int .u8)).toArray)).modify 2 (uD (QP.map (Value.int .u64)).toArray)).modify 5 (uD (QQ.map (Value.int .u8)).toArray) }
def own:ownKnob Tryz.prog.godebug=none:=by kernel_rfl
def laidOut:laidOutB Tryz.prog=true:=by kernel_rfl
def Jt{l:List α}{q:α->Bool}(h:l.all q=true){x:α}(ab:x∈l):q x=true:=eO.1 h x ab
def QR{L:List (String×DataW Unit)}(cN:laidMetH Tryz.prog L W)(he:L=[("math/bits.deBruijn32tab",YtelfblhcphnbmaaGreatDoor.Rows.laid_math_bits_deBruijn32tab),("math/bits.deBruijn64tab",YtelfblhcphnbmaaGreatDoor.Rows.laid_math_bits_deBruijn64tab),("internal/strconv.uint64pow10",YtelfblhcphnbmaaGreatDoor.Rows.laid_internal_strconv_uint64pow10),("bonsai/tree.counts",YtelfblhcphnbmaaGreatDoor.Rows.laid_bonsai_tree_counts),("bonsai/print.counts",YtelfblhcphnbmaaGreatDoor.Rows.laid_bonsai_print_counts),("bonsai/print.signs",YtelfblhcphnbmaaGreatDoor.Rows.laid_bonsai_print_signs)]):fH (k' W) fp:=by
 subst he;exact Qv (rest:=[]) cN
structure oF(I:aG)(d:aH):Prop where
 k:0<=d.k/\d.k<256
 dY:eu d.dY
 s1:eu d.s1
 s2:eu d.s2
 gx:eu d.gx
 lo:fG d.lo
 hi:fG d.hi
 aV:ee I d.ka d.kn d.h2 1 0 (d.kids.map (.int .i64 ·))
 kids:∀ x∈d.kids,fG x
 c6:d.t.size<=9223372036854775807
structure nE(I:aG)(t:cc):Prop where
 aV:ee I t.a t.n t.c 9 0 (t.ae.flatMap aH.cells)
 ae:∀ d∈t.ae,oF I d
 root:fG t.root
structure q'(I:aG)(d:aT):Prop where
 name:d.name.size<=9223372036854775807
 t:nE I d.t
structure lW(I:aG)(g:cO):Prop where
 aV:ee I g.a g.n g.c 3 0 (g.ds.flatMap aT.cells)
 ds:∀ d∈g.ds,q' I d
def ee.sV{a:Option Addr}{n b ff:Nat}(h:ee I a n c size b vs)(ag:n*ff<=140737488355328):ee I a n c size ff vs:=⟨h.len,⟨h.cap.1,ag⟩,h.rd⟩
structure Dk(d:aH):Prop where
 kn:d.kn<2500
structure Ju(d:aT):Prop where
 name:d.name.size<2500
 n:d.t.n<2500
 ae:∀ bH∈d.t.ae,Dk bH
structure QS(g:cO):Prop where
 n:g.n<2500
 ds:∀ d∈g.ds,Ju d
def oF.ok(h:oF I d)(an:Dk d):d.ok I:=
 ⟨h.k,h.dY,h.s1,h.s2,h.gx,h.c6,h.lo,h.hi,h.aV.sV (by have:=an.kn;omega),h.kids⟩
def q'.ok{d:aT}(h:q' I d)(an:Ju d):d.ok I:=
 ⟨by have:=an.name;omega,⟨h.t.aV.sV (by have:=an.n;omega),λbH bI=>(h.t.ae bH bI).ok (an.ae bH bI),h.t.root⟩⟩
def lW.ok(h:lW I g)(an:QS g):g.ok I:=
 ⟨h.aV.sV (by have:=an.n;omega),λd ao=>(h.ds d ao).ok (an.ds d ao)⟩
def oF.mono(h:oF I d)(a7:∀ b o,I b=some o->I' b=some o):oF I' d:={ h with aV:=h.aV.mono a7 }
def q'.mono{d:aT}(h:q' I d)(a7:∀ b o,I b=some o->I' b=some o):q' I' d:=⟨h.name,h.t.aV.mono a7,λbH bI=>(h.t.ae bH bI).mono a7,h.t.root⟩
def lW.mono(h:lW I g)(a7:∀ b o,I b=some o->I' b=some o):lW I' g:=⟨h.aV.mono a7,λd ao=>(h.ds d ao).mono a7⟩
def lW.n(h:lW I g):g.ds.length=g.n:=by have:=h.aV.len;rw[hf _ 3 aT.da]at this;omega
def nE.n(h:nE I t):t.ae.length=t.n:=by have:=h.aV.len;rw[hf _ 9 aH.da]at this;omega
def gS{x r:Int}(h:x=r)(al:-9223372036854775808<=r/\r<=9223372036854775807):IntKind.i64.wrap x=r:=by rw[h];exact wrap_i64 al
section
variable{H:Type}{enc:TypeId×Value->H}{P:Program}{W:World}{base:Nat}{c5:Nat->Bool}{held:Bool}
def Jv{α:Type}{p:Nat->α->Prop}:∀ (n:Nat),(∀ i,i<n->∃ d,p i d)->∃ l:List α,l.length=n/\∀ i (h:i<l.length),p i l[i]
 |0,_=>⟨[],rfl,λi h=>by simp at h⟩
 |n+1,h=>by
  obtain⟨l,U,aa⟩:=Jv n λi hi=>h i (by omega);obtain⟨d,ao⟩:=h n (by omega);refine⟨l++[d],by simp[U],λi hi=>?_⟩;by_cases a0:i<l.length;·rw[List.getElem_append_left a0];exact aa i a0
  ·have e:i=l.length:=by simp at hi;omega
   subst e;simpa[U]using ao
def Dl{f:α->List Value}(an:0<size)(az:∀ x,(f x).length=size)(ok:α->Prop){t e:TypeId}(aq:P.underlying t=some (.slice e))(aB:P.cellsOf e=size)(fA:∀ ca cs x,DataW.trod enc P W base c5 held ca e cs=some x->∃ d,cs=f d/\ok d){x:DataW H×List MemPlace}(h:DataW.trod enc P W base c5 held ca t cs=some x) :
  ∃ (a:Option Addr) (n c:Nat) (l:List α),cs=[.slice a n c]/\ee (k' W) a n c size 0 (l.flatMap f)/\l.length=n/\(∀ d∈l,ok d)/\(a=none->c=0)/\c<=maxLen:=by
 rcases DataW.trod_slice aq h with⟨rfl,_⟩ | ⟨a,len,cap,XQ,rest,m,_,rfl,_,ag,au,hm,hlen,QT,_,_⟩
 ·exact⟨none,0,0,[],rfl,⟨by simp,⟨cK _,by omega⟩,.inl rfl⟩,rfl,λd ao=>by simp at ao,λ_=>rfl,by unfold maxLen;omega⟩
 have each:∀ i,i<len->∃ d,ok d/\W.cells? base (a.add (i*size)) size=some (f d):=λi hi=>by have U:=QT i hi;rw[aB,h8 (by omega)]at U;obtain⟨cs',aa,ak⟩:=Bm.1 U;obtain⟨d,rfl,ao⟩:=fA _ _ _ ak;exact⟨d,ao,aa⟩
 obtain⟨l,tP,Dm⟩:=Jv len each;refine⟨some a,len,cap,l,rfl,⟨by rw[hf f size az,tP],⟨au,by omega⟩,?_⟩,tP,λd ao=>?_,λh=>by simp at h,hm⟩
 ·by_cases aD:len=0
  ·exact .inl aD
  right
  have kj:=(Dm 0 (by omega)).2;obtain⟨-,-,Dn⟩:=World.cells?_some kj;have Jw:=Dn 0 an;rw[h8 (by rw[az];exact an)]at Jw;have Jx:a.spot=none:=by
   have:=World.cell?_spot Jw;cases cX:a.spot with
   |none=>rfl| some s=>simp[Addr.add,cX]at this
  refine⟨a,rfl,Jx,?_⟩;have Jy:∀ i (hi:i<l.length),∀ k,k<size->W.cell? ⟨a.block,a.off+(i*size+k),none⟩=(f l[i])[k]?:=λi hi k aj=>by obtain⟨-,-,b7⟩:=World.cells?_some (Dm i hi).2;have:=b7 k aj;rw[cY _ Jx,cY _ rfl]at this;rw[<-this];congr 2;simp only[];omega
  have QU:∃ cs T ah,W.heap[a.block]?=some (.cells cs T ah):=by
   have U:=Jy 0 (by omega) 0 an;rw[h8 (by rw[az];exact an)]at U;unfold World.cell? at U;cases b7:W.heap[a.block]? with
   |none=>simp[b7]at U
   |some o=>
    cases o with
    |cells cs T ah=>exact⟨cs,T,ah,rfl⟩| _=>simp[b7]at U
  obtain⟨cs,T,ah,b7⟩:=QU;refine⟨cs,T,ah,b7,?_⟩;have QV:=hf f size az l;apply wA;intro j;by_cases ap:j<len*size
  ·have hdiv:j/size<l.length:=by rw[tP];exact Nat.div_lt_of_lt_mul (by rw[ur];exact ap)
   have zY:=Nat.mod_lt j an;have e:=Nat.div_add_mod j size;rw[ur]at e;have U:=Jy (j/size) hdiv (j%size) zY;rw[e]at U;have aa:=zo f size az l (j/size) hdiv;have ak:(l.flatMap f)[j]?=(f l[j/size])[j%size]?:=by rw[<-aa,hW,ck zY,l8,e]
   rw[ak,<-U,hW,ck ap,l8];simp[World.cell?,b7]
  ·rw[tE (by rw[kW];omega),tE (by rw[QV,tP];omega)]
 ·obtain⟨i,hi,rfl⟩:=w3 ao;exact(Dm i hi).1
def sW{k:IntKind}{t:TypeId}{x:DataW H×List MemPlace}(aq:P.underlying t=some (.int k))(h:DataW.trod enc P W base c5 held ca t cs=some x):∃ n,cs=[.int k n]/\(Lit.int k n).wf=true:=by obtain⟨n,U,_,aa⟩:=DataW.trod_int aq h;exact⟨n,U,aa⟩
def wf_i64{n:Int}(h:(Lit.int .i64 n).wf=true):fG n:=by simp[Lit.wf,IntKind.min,IntKind.max,IntKind.signed,IntKind.bits]at h;exact h
def wf_u64{n:Int}(h:(Lit.int .u64 n).wf=true):eu n:=by simp[Lit.wf,IntKind.min,IntKind.max,IntKind.signed,IntKind.bits]at h;unfold eu;omega
def wf_u8{n:Int}(h:(Lit.int .u8 n).wf=true):0<=n/\n<256:=by simp[Lit.wf,IntKind.min,IntKind.max,IntKind.signed,IntKind.bits]at h;omega
end
section
variable{H:Type}{enc:TypeId×Value->H}{W:World}{base:Nat}{c5:Nat->Bool}{held:Bool}
def QW{x:DataW H×List MemPlace}(h:DataW.trod enc Tryz.prog W base c5 held ca 70 cs=some x) :
  ∃ (a:Option Addr) (n c:Nat) (l:List Int),cs=[.slice a n c]/\ee (k' W) a n c 1 0 (l.map (.int .i64 ·))/\l.length=n/\∀ k∈l,fG k:=by
 obtain⟨a,n,c,l,U,aa,ak,aL,-,-⟩:=Dl (f:=λk=>[Value.int .i64 k]) (size:=1) (by decide) (λ_=>rfl) fG (show Tryz.prog.underlying 70=some (.slice 3) by kernel_rfl) (by kernel_rfl)
  (λca cs x h=>by
   obtain⟨n,U,aa⟩:=sW (show Tryz.prog.underlying 3=some (.int .i64) by kernel_rfl) h;exact⟨n,U,wf_i64 aa⟩) h
 refine⟨a,n,c,l,U,?_,ak,aL⟩;rwa [<-List.map_eq_flatMap]at aa
def QX{l:List α}(h:l.length=4):∃ a b c d,l=[a,b,c,d]:=by
 match l,h with
 |[a,b,c,d],_=>exact⟨a,b,c,d,rfl⟩
def QY{l:List α}(h:l.length=9):∃ a b c d e f g i j,l=[a,b,c,d,e,f,g,i,j]:=by
 match l,h with
 |[a,b,c,d,e,f,g,i,j],_=>exact⟨a,b,c,d,e,f,g,i,j,rfl⟩
def QZ{l:List α}(h:l.length=3):∃ a b c,l=[a,b,c]:=by
 match l,h with
 |[a,b,c],_=>exact⟨a,b,c,rfl⟩
def Q0{l:List α}(h:l.length=2):∃ a b,l=[a,b]:=by
 match l,h with
 |[a,b],_=>exact⟨a,b,rfl⟩
def Q1{l:List α}(h:l.length=1):∃ a,l=[a]:=by
 match l,h with
 |[a],_=>exact⟨a,rfl⟩
def Q2{x:DataW H×List MemPlace}(h:DataW.trod enc Tryz.prog W base c5 held ca 69 cs=some x) :
  ∃ a b c d:Int,cs=[.int .u64 a,.int .u64 b,.int .u64 c,.int .u64 d]/\eu a/\eu b/\eu c/\eu d:=by
 obtain⟨xs,m,_,_,au,jJ,hi⟩:=CL (show Tryz.prog.underlying 69=some (.array 4 67) by kernel_rfl) h;rw[show Tryz.prog.cellsOf 69=4 by kernel_rfl]at au;rw[show Tryz.prog.cellsOf 67=1 by kernel_rfl]at hi;have hu:Tryz.prog.underlying 67=some (.int .u64):=by kernel_rfl
 obtain⟨a,b,c,d,rfl⟩:=QX au;have get:∀ i,(g1:i<4)->∃ n,(([a,b,c,d]:List Value).drop (i*1)).take 1=[.int .u64 n]/\eu n:=λi g1=>by have U:=hi i g1;rw[h8 (by omega)]at U;obtain⟨n,aa,ak⟩:=sW hu U;exact⟨n,aa,wf_u64 ak⟩
 obtain⟨n0,cv,xp⟩:=get 0 (by decide);obtain⟨CC,ax,cH⟩:=get 1 (by decide);obtain⟨IA,aS,cz⟩:=get 2 (by decide);obtain⟨Jz,b5,eZ⟩:=get 3 (by decide);simp at cv ax aS b5;subst cv ax aS b5;exact⟨_,_,_,_,rfl,xp,cH,cz,eZ⟩
def xq{t:Nat}{l:List (Nat×Nat)}(h:(match P.underlying t with
  |some (.struct bB)=>decide (bB.toList.map (λf=>(f.type,f.offset))=l)| _=>false)=true):∃ bB,P.underlying t=some (.struct bB)/\bB.toList.map (λf=>(f.type,f.offset))=l:=by
 split at h
 ·rename_i bB hu;exact⟨bB,hu,hX h⟩
 ·cases h
def zZ{P:Program}{l:List (Nat×Nat)}{q:Nat->Nat->Prop}(az:bB.toList.map (λf=>(f.type,f.offset))=l)(h:∀ (i:Nat) (f:Field),bB[i]?=some f->q f.type f.offset):∀ (i t o:Nat),l[i]?=some (t,o)->q t o:=by subst az;intro i t o hi;simp only[vG,nU,Prod.mk.injEq]at hi;obtain⟨f,U,rfl,rfl⟩:=hi;exact h i f (by simpa using U)
def z0{t:TypeId}{x:DataW H×List MemPlace}(aq:P.underlying t=some (.struct bB))(h:DataW.trod enc P W base c5 held ca t cs=some x) :
  cs.length=P.cellsOf t/\∀ (i:Nat) (f:Field),bB[i]?=some f->∃ ca y,DataW.trod enc P W base c5 held ca f.type ((cs.drop f.offset).take (P.cellsOf f.type))=some y:=by
 obtain⟨xs,m,_,_,au,jJ,hi⟩:=DataW.trod_struct aq h;refine⟨au,λi f az=>?_⟩;have a0:=(hU.1 az).1;have U:=hi i f az;rw[h8 (by omega)]at U;exact⟨_,_,U⟩
def Q3{x:DataW H×List MemPlace}(h:DataW.trod enc Tryz.prog W base c5 held ca 72 cs=some x):∃ d:aH,cs=d.cells/\oF (k' W) d:=by obtain⟨bB,aq,az⟩:∃ bB,Tryz.prog.underlying 72=some (.struct bB)/\bB.toList.map (λf=>(f.type,f.offset))=[(5,0),(69,1),(9,5),(3,6),(3,7),(70,8)]:=xq (by kernel_rfl);obtain⟨au,hi⟩:=z0 aq h;have hi:∀ (i t o:Nat),[(5,0),(69,1),(9,5),(3,6),(3,7),(70,8)][i]?=some (t,o)->∃ ca y,DataW.trod enc Tryz.prog W base c5 held ca t ((cs.drop o).take (Tryz.prog.cellsOf t))=some y:=zZ (P:=Tryz.prog) az hi;rw[show Tryz.prog.cellsOf 72=9 by kernel_rfl]at au;obtain⟨kj,fu,fF,lR,zW,zX,Js,XR,XS,rfl⟩:=QY au;obtain⟨_,_,aD⟩:=hi 0 _ _ rfl;obtain⟨_,_,U⟩:=hi 1 _ _ rfl;obtain⟨_,_,aa⟩:=hi 2 _ _ rfl;obtain⟨_,_,ak⟩:=hi 3 _ _ rfl;obtain⟨_,_,aL⟩:=hi 4 _ _ rfl;obtain⟨_,_,be⟩:=hi 5 _ _ rfl;rw[show Tryz.prog.cellsOf 5=1 by kernel_rfl]at aD;rw[show Tryz.prog.cellsOf 69=4 by kernel_rfl]at U;rw[show Tryz.prog.cellsOf 9=1 by kernel_rfl]at aa;rw[show Tryz.prog.cellsOf 3=1 by kernel_rfl]at ak aL;rw[show Tryz.prog.cellsOf 70=1 by kernel_rfl]at be;obtain⟨k,cv,Dp⟩:=sW (show Tryz.prog.underlying 5=some (.int .u8) by kernel_rfl) aD;obtain⟨a,b,c,d,ax,fx,gl,ja,fV⟩:=Q2 U;obtain⟨s,aS,-,ws⟩:=CJ (show Tryz.prog.underlying 9=some .string by kernel_rfl) aa;obtain⟨lo,b5,wl⟩:=sW (show Tryz.prog.underlying 3=some (.int .i64) by kernel_rfl) ak;obtain⟨cr,ea,Q4⟩:=sW (show Tryz.prog.underlying 3=some (.int .i64) by kernel_rfl) aL;obtain⟨ka,kn,h2,kids,mD,kN,gJ,ui⟩:=QW be;simp at cv ax aS b5 ea mD;obtain⟨Dq,Dr,Q5,Q6⟩:=ax;subst cv Dq Dr Q5 Q6 aS b5 ea mD;exact⟨⟨k,a,b,c,d,s,lo,cr,ka,kn,h2,kids⟩,rfl,wf_u8 Dp,fx,gl,ja,fV,wf_i64 wl,wf_i64 Q4,kN,ui,by unfold maxLen at ws;omega⟩
def Q7{x:DataW H×List MemPlace}(h:DataW.trod enc Tryz.prog W base c5 held ca 47 cs=some x):∃ t:cc,cs=t.cells/\nE (k' W) t:=by obtain⟨bB,aq,az⟩:∃ bB,Tryz.prog.underlying 47=some (.struct bB)/\bB.toList.map (λf=>(f.type,f.offset))=[(45,0),(3,1)]:=xq (by kernel_rfl);obtain⟨au,hi⟩:=z0 aq h;have hi:∀ (i t o:Nat),[(45,0),(3,1)][i]?=some (t,o)->∃ ca y,DataW.trod enc Tryz.prog W base c5 held ca t ((cs.drop o).take (Tryz.prog.cellsOf t))=some y:=zZ (P:=Tryz.prog) az hi;rw[show Tryz.prog.cellsOf 47=2 by kernel_rfl]at au;obtain⟨kj,fu,rfl⟩:=Q0 au;obtain⟨_,_,aD⟩:=hi 0 _ _ rfl;obtain⟨_,_,U⟩:=hi 1 _ _ rfl;rw[show Tryz.prog.cellsOf 45=1 by kernel_rfl]at aD;rw[show Tryz.prog.cellsOf 3=1 by kernel_rfl]at U;obtain⟨a,n,c,l,cv,kN,aF,bm,-,-⟩:=Dl (f:=aH.cells) (size:=9) (by decide) aH.da (oF (k' W)) (show Tryz.prog.underlying 45=some (.slice 72) by kernel_rfl) (by kernel_rfl) (λca cs x h=>Q3 h) aD;obtain⟨r,ax,wr⟩:=sW (show Tryz.prog.underlying 3=some (.int .i64) by kernel_rfl) U;simp at cv ax;subst cv ax;exact⟨⟨l,a,n,c,r⟩,rfl,kN,bm,wf_i64 wr⟩
def Q8{x:DataW H×List MemPlace}(h:DataW.trod enc Tryz.prog W base c5 held ca 66 cs=some x):∃ d:aT,cs=d.cells/\q' (k' W) d:=by obtain⟨bB,aq,az⟩:∃ bB,Tryz.prog.underlying 66=some (.struct bB)/\bB.toList.map (λf=>(f.type,f.offset))=[(9,0),(47,1)]:=xq (by kernel_rfl);obtain⟨au,hi⟩:=z0 aq h;have hi:∀ (i t o:Nat),[(9,0),(47,1)][i]?=some (t,o)->∃ ca y,DataW.trod enc Tryz.prog W base c5 held ca t ((cs.drop o).take (Tryz.prog.cellsOf t))=some y:=zZ (P:=Tryz.prog) az hi;rw[show Tryz.prog.cellsOf 66=3 by kernel_rfl]at au;obtain⟨kj,fu,fF,rfl⟩:=QZ au;obtain⟨_,_,aD⟩:=hi 0 _ _ rfl;obtain⟨_,_,U⟩:=hi 1 _ _ rfl;rw[show Tryz.prog.cellsOf 9=1 by kernel_rfl]at aD;rw[show Tryz.prog.cellsOf 47=2 by kernel_rfl]at U;obtain⟨s,cv,-,ws⟩:=CJ (show Tryz.prog.underlying 9=some .string by kernel_rfl) aD;obtain⟨t,ax,aq⟩:=Q7 U;simp[cc.cells]at cv ax;obtain⟨Dq,Dr⟩:=ax;subst cv Dq Dr;exact⟨⟨s,t⟩,rfl,by unfold maxLen at ws;exact ws,aq⟩
def Q9{x:DataW H×List MemPlace}(h:DataW.trod enc Tryz.prog W base c5 held ca 30 cs=some x):∃ g:cO,cs=[.slice g.a g.n g.c]/\lW (k' W) g:=by obtain⟨bB,aq,az⟩:∃ bB,Tryz.prog.underlying 30=some (.struct bB)/\bB.toList.map (λf=>(f.type,f.offset))=[(28,0)]:=xq (by kernel_rfl);obtain⟨au,hi⟩:=z0 aq h;have hi:∀ (i t o:Nat),[(28,0)][i]?=some (t,o)->∃ ca y,DataW.trod enc Tryz.prog W base c5 held ca t ((cs.drop o).take (Tryz.prog.cellsOf t))=some y:=zZ (P:=Tryz.prog) az hi;rw[show Tryz.prog.cellsOf 30=1 by kernel_rfl]at au;obtain⟨kj,rfl⟩:=Q1 au;obtain⟨_,_,aD⟩:=hi 0 _ _ rfl;rw[show Tryz.prog.cellsOf 28=1 by kernel_rfl]at aD;obtain⟨a,n,c,l,cv,kN,aF,bm,-,-⟩:=Dl (f:=aT.cells) (size:=3) (by decide) aT.da (q' (k' W)) (show Tryz.prog.underlying 28=some (.slice 66) by kernel_rfl) (by kernel_rfl) (λca cs x h=>Q8 h) aD;exact⟨⟨l,a,n,c⟩,cv,kN,bm⟩
def Q'{w:World}{r:Reach}{t:Nat}(aq:P.underlying t=some (.struct bB))(h:Value.okWide P w r base t v):∃ cs,v=.agg cs:=by obtain⟨cs,U,-⟩:=Go.WideShapes.okWide_struct aq h;exact⟨cs,U⟩
set_option maxRecDepth 100000 in
def Ra{d:DataW H}(h:DataW.Trod enc Tryz.prog W 0 (λ_=>true) true 30 v d p)(af:Value.okWide Tryz.prog W .any base 30 v):∃ g:cO,v=g.val/\lW (k' W) g:=by obtain⟨bB,aq,-⟩:=xq (P:=Tryz.prog) (t:=30) (l:=[(28,0)]) (by kernel_rfl);obtain⟨cs,rfl⟩:=Q' aq af;obtain⟨ca,az⟩:=h;obtain⟨g,e,aw⟩:=Q9 az;refine⟨g,?_,aw⟩;have b2:cs.toList=[.slice g.a g.n g.c]:=e;cases cs;simp only at b2;subst b2;rfl
end
def JA{H:Type}{enc:TypeId×Value->H}{P:Program}(au:laidOutB P=true){W gy:World}(aj:sU W gy):∀ {c6:List TypeId} {vs:List Value} {ds:List (DataW H)} {ps:List MemPlace},(∀ t∈c6,P.readableRec t=true/\t<P.types.size) -> DataW.TrodAll enc P W 0 (λ_=>true) true c6 vs ds ps->(∀ p∈ps,p.block<W.heap.size)->∀ c5:Nat->Bool,(∀ p∈ps,c5 p.block=true)->DataW.TrodAll enc P gy 0 c5 true c6 vs ds ps
 |[],[],[],_,_,h,_,_,_=>h
 |t::c6,v::vs,d::ds,_,aq,⟨p,q,U,aa,e⟩,a0,c5,an=>by
  subst e;refine⟨p,q,?_,?_,rfl⟩
  ·refine Go.WideElems.Trod_stays au (aq t (.head _)).1 (aq t (.head _)).2 U (λx ab=>?_) (λx ab=>an x (c9.2 (.inl ab)));have cJ:=a0 x (c9.2 (.inl ab));cases x with
   |cell b o=>exact World.cell?_of_block (w:=W) (aj.cp b cJ)| map b=>exact aj.cp b cJ
  ·exact JA au aj (λt h=>aq t (.tail _ h)) aa (λx ab=>a0 x (c9.2 (.inr ab))) c5 (λx ab=>an x (c9.2 (.inr ab)))
def Rb:mapsRowed Tryz.prog=true:=by kernel_rfl
def Rc:Tryz.prog.stopsHeard=true:=by kernel_rfl
def Rd:Tryz.prog.mayEnter=true:=by kernel_rfl
section
variable{H:Type}{enc:TypeId×Value->H}
set_option maxRecDepth 100000 in
def Ds{d:DataW H}(h:DataW.Trod enc Tryz.prog W 0 (λ_=>true) true 3 v d p)(af:Value.okWide Tryz.prog W .any base 3 v):∃ i:Int,v=.int .i64 i/\fG i:=by
 have aq:Tryz.prog.underlying 3=some (.int .i64):=by kernel_rfl
 obtain⟨n,rfl⟩:=Go.WideShapes.okWide_int aq af;obtain⟨ca,az⟩:=h;obtain⟨i,cv,hw⟩:=sW aq az;have ax:[Value.int .i64 n]=[Value.int .i64 i]:=cv;simp only[sI,Value.int.injEq,true_and,and_true]at ax;subst ax;exact⟨n,rfl,wf_i64 hw⟩
end
structure a5 where
 z:Bool
 s:Bool
 f:Bool
 deriving DecidableEq
def a5.cells(x:a5):List Value:=[.bool x.z,.bool x.s,.bool x.f]
def a5.val(x:a5):Value:=.agg #[.bool x.z,.bool x.s,.bool x.f]
def a5.da(x:a5):x.cells.length=3:=rfl
def a5.la(x:a5):Bool:=x.z||x.s
structure pT(I:aG)(M:List aC)(a:Option Addr)(n:Nat)(ks:List a5):Prop where
 n:ks.length=n
 rd:∀ j (h:j<ks.length),∃ ad,a=some ad/\cx I M (ad.add (j*3)) 3 ks[j].cells
def nF(a3:a5×Bool)(k:a5):a5×Bool:=(⟨a3.1.z&&k.z,a3.1.s||k.s,a3.1.f||(a3.2&&k.f)⟩,a3.2&&k.la)
def xr(ks:List a5):a5×Bool:=ks.foldl nF (⟨true,false,false⟩,true)
def JB(ks:List a5):a5:=⟨(xr ks).1.z,(xr ks).1.s&&(xr ks).2,(xr ks).1.f⟩
def uE(f k:a5):a5:=⟨f.z||(f.f&&k.z),f.s||(f.f&&k.s),f.f&&k.f⟩
def Re(ks:List a5):a5:=ks.foldl uE ⟨false,false,true⟩
def eG:a5:=⟨false,false,false⟩
def z1(d:aH)(k:a5):a5:=bif decide (d.hi=0)then⟨true,false,false⟩else⟨k.z||(decide (d.lo=0)&&k.f),k.s,decide (0<d.lo)&&k.f⟩
def xt(d:aH)(ks:List a5):a5:=
 bif decide (d.k=0)then⟨true,false,false⟩else
 bif decide (d.k=1)then⟨false,!d.oo,true⟩else
 bif decide (d.k=2)then⟨false,true,true⟩else
 bif decide (d.k=3)then ks.headD eG else
 bif decide (d.k=4)then JB ks else
 bif decide (d.k=5)then Re ks else
 bif decide (d.k=6)then z1 d (ks.headD eG)else
 bif decide (d.k=7)then⟨(ks.headD eG).la,false,(ks.headD eG).f⟩else
 bif decide (d.k=8)then⟨(ks.headD eG).f,false,(ks.headD eG).la⟩else ks.headD eG
section
variable{I:aG}{M:List aC}{d:aH}{a:Option Addr}{n c:Nat}{ks:List a5}
def pT.head(aj:pT I M a n ks)(aD:0<n):∃ ad,a=some ad/\cx I M (ad.add (0*3)) 3 (ks.headD eG).cells:=by
 have U:0<ks.length:=by rw[aj.n];exact aD
 obtain⟨ad,aa,ak⟩:=aj.rd 0 U;refine⟨ad,aa,?_⟩;cases ks with
 |nil=>simp at U| cons k ks=>exact ak
end
def kk:eu 0:=⟨by decide,by decide⟩
def i0:fG 0:=⟨by decide,by decide⟩
def xu(k:Int)(s:ByteArray):aH:=⟨k,0,0,0,0,s,0,0,none,0,0,[]⟩
def z2(d:aH):Bool:=decide (d.t=⟨#[]⟩)&&(decide (d.lo=0)&&decide (d.hi=0))
def Rf(d:aH)(n:Int):Bool:=
 bif decide (d.k=0)then z2 d&&decide (n=0)else
 bif decide (d.k=1)then z2 d&&decide (n=0)else
 bif decide (d.k=2)then decide (d.lo=0)&&(decide (d.hi=0)&&(decide (n=0)&&(decide ((1:Int)<=d.t.size)&&decide ((d.t.size:Int)<=255))))else
 bif decide (d.k=3)then decide (d.lo=0)&&(decide (d.hi=0)&&(decide (n=0)&&hH d.t))else
 bif decide (d.k=4)||decide (d.k=5)then z2 d&&decide (2<=n)else
 bif decide (d.k=6)then decide (d.t=⟨#[]⟩)&&(decide (n=1)&&(decide (0<=d.lo)&&(decide (d.lo<=99)&&(decide (d.hi=-1)||(decide (d.lo<=d.hi)&&decide (d.hi<=99))))))else
 bif decide (d.k=7)||decide (d.k=8)then z2 d&&decide (n=1)else
 bif decide (d.k=9)then decide (d.lo=0)&&(decide (d.hi=0)&&(decide (n=1)&&hH d.t))else false
def JC{root:Int}:∀ {s:List Bool} {i j:Nat},j<s.length->(s.getD j false == decide (((i+j:Nat):Int)=root))=true->k2 root i s=false
 |b::s,i,0,_,h=>by unfold k2;rw[show(b == decide ((i:Int)=root))=true by simpa using h];rfl
 |b::s,i,j+1,ap,h=>by
  unfold k2;cases b == decide ((i:Int)=root)with
  |true=>rfl| false=>simp only[bj];refine JC (j:=j) (by simpa using ap) ?_;rw[show i+1+j=i+(j+1) by omega];simpa using h
def JD{root:Int}:∀ {s:List Bool} {i:Nat},(∀ j,j<s.length->(s.getD j false == decide (((i+j:Nat):Int)=root))=false)->k2 root i s=true
 |[],i,h=>rfl| b::s,i,h=>by unfold k2;have aD:=h 0 (by simp);rw[show(b == decide ((i:Int)=root))=false by simpa using aD];simp only[bj];refine JD λj ap=>?_;have:=h (j+1) (by simpa using ap);rw[show i+1+j=i+(j+1) by omega];simpa using this
structure uF(I:aG)(a:Option Addr)(c:Nat)(k:Int)(s:ByteArray):Prop where
 aV:ee I a 1 c 9 96 (xu k s).cells
def uF.mono{a:Option Addr}{k:Int}{s:ByteArray}(h:uF I a c k s)(a7:∀ b o,I b=some o->I' b=some o):uF I' a c k s:=⟨h.aV.mono a7⟩
def uF.rd{a:Option Addr}{k:Int}{s:ByteArray}(h:uF I a c k s):∃ ad,a=some ad/\∀ M,cx I M (ad.add (0*9)) 9 (xu k s).cells:=by have:=ee.row (f:=aH.cells) (l:=[xu k s]) aH.da (size:=9) (j:=0) (by simpa using h.aV) (by decide) (cK 1);simpa using this
def a9.bH{o:Oper}{K:dE}(h:a9 X o F C I M (λF C I M=>(M.map (·.num)).Nodup->(∀ x∈M,I x.num=none)->K F C I M)):a9 X o F C I M K:=
 ⟨λa w Q aM=>l9 (λbl w'=>λ⟨cy,C',I',M',⟨β,al⟩,aj⟩=>⟨cy,C',I',M',⟨β,al⟩,aj al.holds.bH al.holds.d⟩) (h.1 a w Q aM)⟩
abbrev mK:=cc×Int×ByteArray
def mK.bH(x:mK):aH:=xu x.2.1 x.2.2
structure mK.ok(I:aG)(x:mK):Prop where
 t:x.1.ok I
 ae:x.1.ae=[x.bH]
 root:x.1.root=0
 fits:Rf x.bH 0=true
def mK.ok.mono{x:mK}(h:mK.ok I x)(a7:∀ b o,I b=some o->I' b=some o):mK.ok I' x:=⟨h.t.mono a7,h.ae,h.root,h.fits⟩
def mK.ok.at{x:mK}(h:mK.ok I x):∃ a c,x.1.cells=[.slice a 1 c,.int .i64 0]/\uF I a c x.2.1 x.2.2:=by obtain⟨⟨ae,a,n,c,root⟩,k,s⟩:=x;obtain⟨aq,U,aa,ak⟩:=h;have ib:ae=[xu k s]:=U;clear U ak;simp only at aa aq;subst ib;subst aa;have aF:=aq.n;simp only[c8,gP]at aF;subst aF;exact⟨a,c,rfl,⟨by simpa[mK.bH]using aq.aV⟩⟩
def JE(ae:List aH):Nat->List Int->List Int->List Int
 |0,_,b=>b
 |f+1,todo,b=>match todo.getLast? with
  |none=>b| some n=>JE ae f (todo.dropLast++(nodeAt ae n.toNat).kids) (b++[n])
def Rg(ae:List aH)(node:Int):List Int:=JE ae (ae.length+1) [node] []
def aH.bi(d:aH):aH:=⟨d.k,d.dY,d.s1,d.s2,d.gx,d.t,d.lo,d.hi,none,0,0,d.kids⟩
def aH.Dt(d:aH)(l:List Int):aH:=⟨d.k,d.dY,d.s1,d.s2,d.gx,d.t,d.lo,d.hi,none,0,0,l⟩
def Rh(ae:List aH)(a3:List Int×List aH)(b:Int):List Int×List aH:=
 (a3.1.set b.toNat a3.2.length,a3.2++[(nodeAt ae b.toNat).Dt ((nodeAt ae b.toNat).kids.map λk=>(a3.1.set b.toNat a3.2.length).getD k.toNat 0)])
def Ri(ae:List aH)(node:Int):List aH:=((Rg ae node).reverse.foldl (Rh ae) (List.replicate ae.length 0,[])).2
def cx.mono{a:Addr}{n:Nat}(h:cx I M a n vs)(a7:∀ b o,I b=some o->I' b=some o):cx I' M a n vs:=by obtain⟨U,cs,T,ah,aa,ak⟩:=h;exact⟨U,cs,T,ah,aa.imp (a7 _ _) id,ak⟩
def cx.sub{I:aG}{M M':List aC}{a:Addr}{n:Nat}{vs:List Value}(h:cx I M a n vs)(aZ:∀ x∈M,x∈M'):cx I M' a n vs:=by obtain⟨U,cs,T,ah,aa,ak⟩:=h;refine⟨U,cs,T,ah,aa.imp id ?_,ak⟩;rintro⟨x,ab,ax,aS⟩;exact⟨x,aZ x ab,ax,aS⟩
def JF(a3:List aH×List Int)(l:List aH):List aH×List Int:=
 (a3.1++l.map (λx=>x.Dt (x.kids.map λk=>(a3.1.length:Int)+k)),a3.2++[((a3.1.length+l.length:Nat):Int)-1])
def Rj(d:aH)(z3:List (List aH)):List aH:=(z3.foldl JF ([],[])).1++[d.Dt (z3.foldl JF ([],[])).2]
section
variable{X:bO}{β:Nat->Nat}{a:Act}{w:World}{F:Fr}{C:b6}{I:aG}{M:List aC}{o:Oper}{Q:Exit->Act->World->Prop}{K:dE}
end
def uG:List (ByteArray×Int)->Nat->List aT->List (ByteArray×Int)
 |acc,_,[]=>acc| acc,i,d::ds=>uG (bif (e0 d.name acc).isSome then acc else acc++[(d.name,(i:Int))]) (i+1) ds
def iM(ds:List aT):List (ByteArray×Int):=uG [] 0 ds
def bh.zero{os:bh}{size:Nat}{xs:List Value}(h:os.ok size xs):bh.ok ⟨os.a,0,os.c,os.cur⟩ size []:=by refine⟨by simp,λaN=>⟨rfl,(h.nil aN).2⟩,λg aw=>?_⟩;obtain⟨U,aa,ak,aL⟩:=h.cap g aw;exact⟨U,gq _,ak,by simp⟩
def z4(pl:List (ByteArray×Int))(b8 acc:List a5)(d:aH):List a5:=
 d.kids.map (λk=>acc.getD k.toNat eG)++bif decide (d.k=3)then [b8.getD ((e0 d.t pl).getD 0).toNat eG]else []
def mL(pl:List (ByteArray×Int))(b8:List a5):List aH->List a5->List a5
 |[],acc=>acc| d::ds,acc=>mL pl b8 ds (acc++[xt d (z4 pl b8 acc d)])
structure a5.le(a b:a5):Prop where
 z:a.z=true->b.z=true
 s:a.s=true->b.s=true
 f:a.f=true->b.f=true
def a5.le_refl(a:a5):a.le a:=⟨id,id,id⟩
def a5.le.trans{a b c:a5}(h:a.le b)(aP:b.le c):a.le c:=⟨λx=>aP.z (h.z x),λx=>aP.s (h.s x),λx=>aP.f (h.f x)⟩
def a5.le.antisymm{a b:a5}(h:a.le b)(aP:b.le a):a=b:=by
 obtain⟨bK,cm,cn⟩:=a;obtain⟨cR,bU,dZ⟩:=b;have e:∀ {x y:Bool},(x=true->y=true)->(y=true->x=true)->x=y:=fun {x y} h aP=>by cases x<;>cases y<;>simp_all
 have ax:bK=cR:=e h.z aP.z;have aS:cm=bU:=e h.s aP.s;have b5:cn=dZ:=e h.f aP.f;subst ax aS b5;rfl
def a5.im(a:a5):eG.le a:=⟨(λh=>by cases h),(λh=>by cases h),(λh=>by cases h)⟩
def within(a b:a5):Bool:=(!a.z||b.z)&&((!a.s||b.s)&&(!a.f||b.f))
def a5.Du{a b:a5}(h:a.le b):a.la=true->b.la=true:=by intro an;simp only[a5.la,gY]at an |-;exact an.imp h.z h.s
inductive cS:List a5->List a5->Prop
 |nil:cS [] []| cons {a b l m} (h:a5.le a b) (t:cS l m):cS (a::l) (b::m)
def cS.refl:∀ l,cS l l
 |[]=>.nil| a::l=>.cons a.le_refl (cS.refl l)
def cS.trans:∀ {a b c},cS a b->cS b c->cS a c
 |_,_,_,.nil,.nil=>.nil| _,_,_,.cons h t,.cons aP cD=>.cons (h.trans aP) (t.trans cD)
def cS.antisymm:∀ {a b},cS a b->cS b a->a=b
 |_,_,.nil,_=>rfl| _,_,.cons h t,.cons aP cD=>by rw[h.antisymm aP,t.antisymm cD]
def cS.len:∀ {a b},cS a b->a.length=b.length
 |_,_,.nil=>rfl| _,_,.cons h t=>by simp[t.len]
def cS.append:∀ {a b c d},cS a b->cS c d->cS (a++c) (b++d)
 |_,_,_,_,.nil,h=>h| _,_,_,_,.cons h t,aP=>.cons h (t.append aP)
def cS.getD:∀ {a b},cS a b->∀ i,(a.getD i eG).le (b.getD i eG)
 |_,_,.nil,i=>by simp;exact a5.le_refl _
 |_,_,.cons h t,0=>h| _,_,.cons h t,i+1=>by simpa using t.getD i
def cS.of:∀ {a b:List a5},a.length=b.length->(∀ i,i<a.length->(a.getD i eG).le (b.getD i eG))->cS a b
 |[],[],_,_=>.nil| x::a,y::b,au,h=>.cons (by simpa using h 0 (by simp)) (cS.of (by simpa using au) λi hi=>by simpa using h (i+1) (by simpa using hi))
def cS.map{α:Type}{f g:α->a5}:∀ {l:List α},(∀ x∈l,(f x).le (g x))->cS (l.map f) (l.map g)
 |[],_=>.nil| x::l,h=>.cons (h x (.head _)) (cS.map λy aE=>h y (.tail _ aE))
def cS.head{a b:List a5}(h:cS a b):(a.headD eG).le (b.headD eG):=by
 cases h with
 |nil=>exact a5.le_refl _| cons h _=>exact h
def cS.im:∀ l:List a5,cS (List.replicate l.length eG) l
 |[]=>.nil| a::l=>.cons a.im (cS.im l)
def JG:∀ {a b:List a5},cS a b->∀ {x y:a5×Bool},x.1.le y.1->(x.2=true->y.2=true)->(a.foldl nF x).1.le (b.foldl nF y).1/\((a.foldl nF x).2=true->(b.foldl nF y).2=true)
 |_,_,.nil,_,_,U,aa=>⟨U,aa⟩
 |_,_,.cons h t,x,y,U,aa=>by
  refine JG t ⟨?_,?_,?_⟩ ?_;·simp only[nF,bs];exact λg=>⟨U.z g.1,h.z g.2⟩
  ·simp only[nF,gY];exact λg=>g.imp U.s h.s
  ·simp only[nF,gY,bs];exact λg=>g.imp U.f λg=>⟨aa g.1,h.f g.2⟩
  ·simp only[nF,bs];exact λg=>⟨aa g.1,a5.Du h g.2⟩
def JH:∀ {a b:List a5},cS a b->∀ {x y:a5},x.le y->(a.foldl uE x).le (b.foldl uE y)
 |_,_,.nil,_,_,U=>U
 |_,_,.cons h t,x,y,U=>by
  refine JH t ⟨?_,?_,?_⟩;·simp only[uE,gY,bs];exact λg=>g.imp U.z λg=>⟨U.f g.1,h.z g.2⟩
  ·simp only[uE,gY,bs];exact λg=>g.imp U.s λg=>⟨U.f g.1,h.s g.2⟩
  ·simp only[uE,bs];exact λg=>⟨U.f g.1,h.f g.2⟩
def Rk(d:aH){a b:a5}(h:a.le b):(z1 d a).le (z1 d b):=by
 unfold z1;cases decide (d.hi=0)with
 |true=>exact a5.le_refl _
 |false=>
  refine⟨?_,h.s,?_⟩;·simp only[bj,gY,bs];exact λg=>g.imp h.z λg=>⟨g.1,h.f g.2⟩
  ·simp only[bj,bs];exact λg=>⟨g.1,h.f g.2⟩
def Rl(d:aH){a b:List a5}(h:cS a b):(xt d a).le (xt d b):=by
 have b7:=h.head;unfold xt;cases decide (d.k=0)with
 |true=>exact a5.le_refl _| false=>
 cases decide (d.k=1)with
 |true=>exact a5.le_refl _| false=>
 cases decide (d.k=2)with
 |true=>exact a5.le_refl _| false=>
 cases decide (d.k=3)with
 |true=>exact b7| false=>
 cases decide (d.k=4)with
 |true=>have an:=JG h (x:=(⟨true,false,false⟩,true)) (y:=(⟨true,false,false⟩,true)) (a5.le_refl _) id;refine⟨an.1.z,?_,an.1.f⟩;simp only[bn,bj,JB,xr,bs];exact λg=>⟨an.1.s g.1,an.2 g.2⟩
 |false=>
 cases decide (d.k=5)with
 |true=>exact JH h (a5.le_refl _)| false=>
 cases decide (d.k=6)with
 |true=>exact Rk d b7| false=>
 cases decide (d.k=7)with
 |true=>exact⟨a5.Du b7,id,b7.f⟩| false=>
 cases decide (d.k=8)with
 |true=>exact⟨b7.f,id,a5.Du b7⟩| false=>exact b7
def Rm{b8 ra acc xv:List a5}(h:cS b8 ra)(aN:cS acc xv)(d:aH):cS (z4 pl b8 acc d) (z4 pl ra xv d):=by
 unfold z4;refine(cS.map λk _=>aN.getD _).append ?_;cases decide (d.k=3)with
 |true=>exact .cons (h.getD _) .nil| false=>exact .nil
def JI{pl:List (ByteArray×Int)}{b8 ra:List a5}(h:cS b8 ra):∀ (ds:List aH) {acc xv:List a5},cS acc xv->cS (mL pl b8 ds acc) (mL pl ra ds xv)
 |[],_,_,aN=>aN| d::ds,_,_,aN=>JI h ds (aN.append (.cons (Rl d (Rm h aN d)) .nil))
def kl(pl:List (ByteArray×Int))(b8:List a5)(d:aT):a5:=(mL pl b8 d.t.ae []).getD d.t.root.toNat eG
def xw{b8 ra:List a5}(h:cS b8 ra)(d:aT):(kl pl b8 d).le (kl pl ra d):=(JI h d.t.ae .nil).getD _
structure uH(ds:List aT)(l:List a5):Prop where
 len:l.length=ds.length
 up:∀ i (h:i<ds.length),(l.getD i eG).le (kl (iM ds) l ds[i])
 least:∀ m:List a5,m.length=ds.length->(∀ i (h:i<ds.length),(kl (iM ds) m ds[i]).le (m.getD i eG))->cS l m
def Dv(l:List a5)(i j:Nat)(x:a5)(hi:i<l.length):(l.set i x).getD j eG=if i=j then x else l.getD j eG:=by
 simp only[c1,kV];by_cases e:i=j
 ·subst e;simp[hi]
 ·rw[cd e,cd e]
def uH.step{ds:List aT}{l:List a5}(h:uH ds l){i:Nat}(hi:i<ds.length):uH ds (l.set i (kl (iM ds) l ds[i]))/\cS l (l.set i (kl (iM ds) l ds[i])):=by
 have ek:i<l.length:=by rw[h.len];exact hi
 have hle:cS l (l.set i (kl (iM ds) l ds[i])):=cS.of (by simp) λj ap=>by
  rw[Dv _ _ _ _ ek];by_cases e:i=j;·subst e;rw[ck rfl];exact h.up i hi
  ·rw[cd e];exact a5.le_refl _
 refine⟨⟨by simpa using h.len,λj ap=>?_,λm hm aB=>?_⟩,hle⟩
 ·rw[Dv _ _ _ _ ek];by_cases e:i=j
  ·subst e;rw[ck rfl];exact xw hle _
  ·rw[cd e];exact(h.up j ap).trans (xw hle _)
 ·have xx:=h.least m hm aB;refine cS.of (by simp[h.len,hm]) λj ap=>?_;rw[Dv _ _ _ _ ek];by_cases e:i=j
  ·subst e;rw[ck rfl];exact(xw xx _).trans (aB i hi)
  ·rw[cd e];exact xx.getD j
structure pU(ds:List aT)(l:List a5):Prop where
 len:l.length=ds.length
 fix:∀ i (h:i<ds.length),l.getD i eG=kl (iM ds) l ds[i]
 least:∀ m:List a5,m.length=ds.length->(∀ i (h:i<ds.length),(kl (iM ds) m ds[i]).le (m.getD i eG))->cS l m
def Rn(pl:List (ByteArray×Int))(ae:List aH):Bool:=ae.all λd=>!decide (d.k=3)||(e0 d.t pl).isSome
def pT.mono{a:Option Addr}{n:Nat}{ks:List a5}(h:pT I M a n ks)(a7:∀ b o,I b=some o->I' b=some o):pT I' M a n ks:=
 ⟨h.n,λj ap=>by
  obtain⟨ad,U,aa⟩:=h.rd j ap;exact⟨ad,U,aa.mono a7⟩⟩
def pT.sub{I:aG}{M M':List aC}{a:Option Addr}{n:Nat}{ks:List a5}(h:pT I M a n ks)(aZ:∀ x∈M,x∈M'):pT I M' a n ks:=
 ⟨h.n,λj ap=>by
  obtain⟨ad,U,aa⟩:=h.rd j ap;exact⟨ad,U,aa.sub aZ⟩⟩
def df.de{a:Addr}{K:List aC->Prop}(pre post:List aC)(cs:Array Value)(T:Nat)(aZ:M=pre++⟨a.block,.cells cs T (0,0)⟩::post)(an:a.spot=none)(ag:Nat.ble (a.off+vs.length) cs.size=true)(U:eP vs=true)(cs':List Value)(he:bt cs.toList a.off vs=cs')(k:K (pre++⟨a.block,.cells cs'.toArray T (0,0)⟩::post)):df M a vs K:=
 ⟨pre,post,cs,T,aZ,an,bk ag,U,by rw[he];exact k⟩
def cc.bi(t:cc):cc:=⟨t.ae.map aH.bi,none,t.n,0,t.root⟩
def aT.bi(d:aT):aT:=⟨d.name,d.t.bi⟩
def cO.bi(g:cO):cO:=⟨g.ds.map aT.bi,none,g.n,0⟩
def JJ:∀ (ds:List aH) (i:Nat) (s:List Bool),gm i (ds.map aH.bi) s=gm i ds s
 |[],i,s=>rfl| d::ds,i,s=>by have h:∀ bx,gm (i+1) (ds.map aH.bi) bx=gm (i+1) ds bx:=λbx=>JJ ds (i+1) bx;rw[cC,gm,gm];simp only[h];rfl
def xy(t:cc):right t.bi=right t:=by unfold right cc.bi;simp only[JJ,j9]
def JK(ae:List aH)(k:Int):hk (ae.map aH.bi) k=hk ae k:=by unfold hk;rw[sJ];rfl
def JL(ae:List aH)(kind:Int):∀ ks,hl (ae.map aH.bi) kind ks=hl ae kind ks
 |[]=>rfl| k::ks=>by rw[hl,hl,JK,JL ae kind ks]
def JM(ae:List aH):∀ ds:List aH,hn (ae.map aH.bi) (ds.map aH.bi)=hn ae ds
 |[]=>rfl| d::ds=>by have h:=JL ae d.k d.kids;rw[cC,hn,hn,JM ae ds];show(bif !decide (d.k=4) && !decide (d.k=5)then hn ae ds else bif hl (ae.map aH.bi) d.k d.kids then hn ae ds else false)=_;rw[h]
def Ro(t:cc):normal t.bi=normal t:=by unfold normal;rw[xy];congr 1;exact JM t.ae t.ae
def JN:∀ (ds:List aH) (i:Nat) (dO:List Int),ov i (ds.map aH.bi) dO=ov i ds dO
 |[],i,dO=>rfl| d::ds,i,dO=>by rw[cC,ov,ov,JN ds];rfl
def Rp(t:cc):depth t.bi=depth t:=by unfold depth;rw[xy];simp only[cc.bi,JN,j9]
def Rq(t:cc):jF t.bi=jF t:=by unfold jF;rw[xy,Rp];rfl
def JO{α:Type}{z:α}{f g:aH->(Int->α)->α}(h:∀ d q,f d.bi q=g d q):∀ (ds:List aH) (acc:List α),lK z f (ds.map aH.bi) acc=lK z g ds acc
 |[],acc=>rfl| d::ds,acc=>by rw[cC,lK,lK,h,JO h ds]
def Rr(deb:List Int)(ae:List aH)(k:Int):gz deb (ae.map aH.bi) k=gz deb ae k:=by unfold gz qR;rw[JO (g:=uw deb ae) (λd q=>?_)];show k4 deb d++(nu (uv d) (λk=>paren (ew d.k (hk (ae.map aH.bi) k)) (q k)) false d.kids++jK d)=_;simp only[JK];rfl
def Rs(deb:List Int)(t:cc):ij deb t.bi=ij deb t:=by unfold ij;rw[xy];have:gz deb t.bi.ae t.bi.root=gz deb t.ae t.root:=Rr deb t.ae t.root;rw[this]
def Rt(deb:List Int)(d:aT):kg deb d.bi=kg deb d:=by unfold kg;have:ij deb d.bi.t=ij deb d.t:=Rs deb d.t;rw[this];rfl
def JP(deb:List Int):∀ (ds:List aT) (acc:List UInt8),kh deb (ds.map aT.bi) acc=kh deb ds acc
 |[],acc=>rfl| d::ds,acc=>by rw[cC,kh,kh,Rt,JP deb ds]
def Ru(g:cO):oz g.bi=oz g:=by unfold oz cO.bi;rw[sJ];congr 1;refine ua λd _=>?_;show lS d.t.bi=lS d.t;unfold lS;rw[xy];rfl
def JQ{q:aT->Bool}(h:∀ d,q d.bi=q d)(ds:List aT):(ds.map aT.bi).all q=ds.all q:=by rw[List.all_map];congr 1;funext d;exact h d
def Rv(deb:List Int)(g:cO):mI deb g.bi=mI deb g:=by unfold mI;rw[Ru];have U:(g.bi.ds.all λd=>jF d.t)=g.ds.all λd=>jF d.t:=JQ (λd=>Rq d.t) g.ds;have aa:kh deb g.bi.ds []=kh deb g.ds []:=JP deb g.ds [];rw[U,aa];rfl
def Rw(ds:List aT):nA (ds.map aT.bi)=nA ds:=JQ (q:=λd=>hH d.name&&normal d.t) (λd=>by
 show(hH d.name&&normal d.t.bi)=_;rw[Ro]) ds
def JR:∀ (ds:List aT) (acc:List (ByteArray×Int)) (i:Nat),il acc i (ds.map aT.bi)=il acc i ds
 |[],acc,i=>rfl| d::ds,acc,i=>by rw[cC,il,il];show(bif (e0 d.name acc).isSome then none else il (acc++[(d.name,(i:Int))]) (i+1) (ds.map aT.bi))=_;rw[JR ds]
def JS:∀ (ds:List aT) (i:Nat),k9 i (ds.map aT.bi)=(k9 i ds).map λp=>(p.1,p.2.bi)
 |[],i=>rfl| d::ds,i=>by rw[cC,k9,k9,JS ds,kC,sJ];show(d.t.ae.map aH.bi).map (λn=>(i,n))++_=_;rw[sJ];rfl
def Rx(acc:List (ByteArray×Int))(ds:List aT):lU acc (ds.map aT.bi)=lU acc ds:=by unfold lU;rw[JS,List.all_map];rfl
def Ry(deb:List Int)(g:cO):dB deb g.bi=dB deb g:=by unfold dB;rw[Rv];have U:nA g.bi.ds=nA g.ds:=Rw g.ds;have aa:il [] 0 g.bi.ds=il [] 0 g.ds:=JR g.ds [] 0;have ak:∀ acc,lU acc g.bi.ds=lU acc g.ds:=λacc=>Rx acc g.ds;rw[U,aa];simp only[ak];rfl
def JT(pl:List (ByteArray×Int))(b8:List a5):∀ (ds:List aH) (acc:List a5),mL pl b8 (ds.map aH.bi) acc=mL pl b8 ds acc
 |[],acc=>rfl| d::ds,acc=>by rw[cC,mL,mL,JT pl b8 ds];rfl
def JU:∀ (ds:List aT) (acc:List (ByteArray×Int)) (i:Nat),uG acc i (ds.map aT.bi)=uG acc i ds
 |[],acc,i=>rfl| d::ds,acc,i=>by rw[cC,uG,uG,JU ds];rfl
def JV(ds:List aT):iM (ds.map aT.bi)=iM ds:=JU ds [] 0
def JW(pl:List (ByteArray×Int))(b8:List a5)(d:aT):kl pl b8 d.bi=kl pl b8 d:=by unfold kl;have:mL pl b8 d.bi.t.ae []=mL pl b8 d.t.ae []:=JT pl b8 d.t.ae [];rw[this];rfl
def JX(l:List aH):cc:=⟨l,none,l.length,0,(l.length:Int)-1⟩
structure pV(I:aG)(t:cc)(l:List aH):Prop where
 ok:t.ok I
 bi:t.ae.map aH.bi=l
 root:t.root=(l.length:Int)-1
def pV.mono{l:List aH}(h:pV I t l)(a7:∀ b o,I b=some o->I' b=some o):pV I' t l:=⟨h.ok.mono a7,h.bi,h.root⟩
def pV.len{l:List aH}(h:pV I t l):t.n=l.length:=by rw[<-h.ok.n,<-h.bi,j9]
def pV.z5{l:List aH}(h:pV I t l):t.bi=JX l:=by unfold cc.bi JX;rw[h.bi,h.root,h.len]
def pV.leaf(aq:t.ok I)(U:t.ae=[d])(aa:t.root=0)(ao:d.bi=d):pV I t [d]:=⟨aq,by rw[U];simp[ao],by rw[aa];rfl⟩
def Rz(l:List aH):List aH:=Ri l ((l.length:Int)-1)
def sX(d:aH)(z3:List (List aH)):List aH:=Rj d (z3.map Rz)
structure JY(t:cc):Prop where
 n:t.n<2500
 ae:∀ bH∈t.ae,Dk bH
def nE.ok(h:nE I t)(an:JY t):t.ok I:=
 ⟨h.aV.sV (by have:=an.n;omega),λbH bI=>(h.ae bH bI).ok (an.ae bH bI),h.root⟩
def nE.mono(h:nE I t)(a7:∀ b o,I b=some o->I' b=some o):nE I' t:=⟨h.aV.mono a7,λbH bI=>(h.ae bH bI).mono a7,h.root⟩
def XT(g:cO)(RA:List cc)(i:Nat):List cc:=RA++(g.ds.take i).map aT.t
structure rb(L:List cc)(n0:Nat)(x:Nat×Nat):Prop where
 i:x.2<=L.length
 n:x.1<=6000
 ge:n0<=x.1
 small:x.1<2500->x.2<=x.1/\∀ j (h:j<L.length),j<x.2->JY L[j]
structure Dw(d:aH):Prop where
 kn:d.kn<400
 t:d.t.size<8020
structure JZ(t:cc):Prop where
 n:t.n<400
 ae:∀ bH∈t.ae,Dw bH
structure Dx(d:aT):Prop where
 name:d.name.size<8020
 t:JZ d.t
structure Dy(g:cO):Prop where
 n:g.n<400
 ds:∀ d∈g.ds,Dx d
def oF.xz(h:oF I d)(an:Dw d):d.ok I:=
 ⟨h.k,h.dY,h.s1,h.s2,h.gx,h.c6,h.lo,h.hi,h.aV.sV (by have:=an.kn;omega),h.kids⟩
def nE.xz(h:nE I t)(an:JZ t):t.ok I:=
 ⟨h.aV.sV (by have:=an.n;omega),λbH bI=>(h.ae bH bI).xz (an.ae bH bI),h.root⟩
def lW.xz(h:lW I g)(an:Dy g):g.ok I:=
 ⟨h.aV.sV (by have:=an.n;omega),λd ao=>⟨by have:=(an.ds d ao).name;omega,(h.ds d ao).t.xz (an.ds d ao).t⟩⟩
structure J0(g:cO)(x:Nat×Nat):Prop where
 k:x.2<=g.n
 n:x.1<=2000
 small:x.1<300->x.2<=x.1/\∀ i (h:i<g.ds.length),i<x.2->Dx g.ds[i]
structure RB(g:cO)(t:cc)(k:Nat)(x:Nat×Nat):Prop where
 j:x.2<=t.n
 n:x.1<=2000
 small:x.1<300->t.n<400/\k+1<=x.1/\(∀ i (h:i<g.ds.length),i<k->Dx g.ds[i])/\(∀ h:k<g.ds.length,g.ds[k].name.size<8020)/\∀ i (h:i<t.ae.length),i<x.2->Dw t.ae[i]
set_option maxRecDepth 100000 in
def RC(aw:lW I g)(s:ByteArray) :
  Spec Tryz.prog 18 [g.val,.string s] I [] λv I' M'=>(∃ r,v=.bool r/\(r=false->Dy g/\s.size<=30))/\I'=I/\M'=[]:=by
 refine cB [] a8 Tryz.func18 rfl rfl rfl ?_;intro B aD;have pP:=aw.n;refine fh.inv (ι:=Nat×Nat) (λx=>{ b8:=[(1,.val (.string s)),(2,.ref 2 0),(5,.val (.int .i64 x.1)),(6,.val (.int .i64 x.2))],cl:=[(2,[.slice g.a g.n g.c])],dL:=I }) (λx=>J0 g x/\0<=x.1) (λx=>g.n-x.2) ?_ ?_
 ·exact⟨(0,0),⟨⟨gq _,by simp only;omega,λ_=>⟨gq _,λi _ h=>by simp at h⟩⟩,cK _⟩,.refl,ei,.cons rfl (.nil)⟩
 rintro⟨m,k⟩⟨⟨aj,hm,Dz⟩,eD⟩;simp only at aj hm Dz eD;have fin:(m<300->k=g.n)->m<300->Dy g:=λU xA=>by obtain⟨s1,s2⟩:=Dz xA;have ak:=U xA;refine⟨by omega,λd ao=>?_⟩;obtain⟨y,aE,rfl⟩:=w3 ao;exact s2 y aE (by omega)
 refine b9.mk (λak=>a1.mk (λaL=>?_) (λaL=>?_)) (λak=>?_)
 ·have dI:k<g.n:=by simpa using ak
  have ot:m<300:=by have a2:((m:Nat):Int)<300:=hX aL;omega
  obtain⟨s1,s2⟩:=Dz ot;have pG:k<g.ds.length:=by omega
  obtain⟨ad,dH,cj⟩:=aw.aV.row aT.da dI pG;have ao:=aw.ds _ (et pG);have vY:=ao.name;have e8:=ao.t;have RD:=e8.n;have uI:∀ M,cx I M ((ad.add (k*3)).add 0) 1 [.string g.ds[k].name]:=λM=>(cj M).part (k:=0) (m:=1) (by decide);have uC:∀ M,cx I M ((ad.add (k*3)).add 1) 2 g.ds[k].t.cells:=λM=>(cj M).part (k:=1) (m:=2) (by decide);have zr:∀ (q:Nat),q<8020->g.ds[k].name.size=q->∀ h:k<g.ds.length,g.ds[k].name.size<8020:=λq aR e h=>by rw[e];exact aR
  generalize eC:g.ds[k].name=c7 at vY uI zr;generalize RE:g.ds[k].t=u at e8 RD uC;refine c2.mk ad k dH rfl dI ?_;refine ba.mk _ (uC _) ?_;refine dt.draw a8 rfl rfl rfl ?_;refine bp.mk ((m+1:Nat):Int) (gS (by omega) (by omega)) ?_;refine bp.mk ((m+1+min 300 u.n:Nat):Int) (gS (by omega) (by omega)) ?_;refine c2.mk ad k dH rfl dI ?_;refine ba.mk _ (uI _) ?_;refine qk.mk (by decide) ?_;refine bp.mk ((c7.size/20:Nat):Int) (gS (by rw[CG (by omega)];omega) (by omega)) ?_;refine bp.mk ((m+1+min 300 u.n+min 300 (c7.size/20):Nat):Int) (gS (by omega) (by omega)) ?_;refine fh.inv (ι:=Nat×Nat) (λx=>{ b8:=[(1,.val (.string s)),(2,.ref 2 0),(5,.val (.int .i64 x.1)),(6,.val (.int .i64 k)),(7,.ref 7 0),(8,.val (.int .i64 x.2))],cl:=[(2,[.slice g.a g.n g.c]),(7,u.cells)],dL:=I }) (λx=>RB g u k x/\0<=x.1) (λx=>u.n-x.2) ?_ ?_;·exact⟨(_,0),⟨⟨gq _,by simp only;omega,λh=>by simp only at h;exact⟨by omega,by simp only;omega,s2,λh=>zr c7.size (by omega) rfl h,λi _ h=>by simp at h⟩⟩,by simp only;omega⟩,.refl,y4,.cons rfl (.cons rfl (.nil))⟩
  rintro⟨p,q⟩⟨⟨aR,aK,DA⟩,xB⟩;simp only at aR aK xB DA;have out:(p<300->q=u.n)->J0 g (p,k+1):=λU=>by
   refine⟨by simp only;omega,aK,λaa=>?_⟩;simp only at aa;obtain⟨lX,jN,oG,DB,DC⟩:=DA aa;have XU:=U aa;refine⟨jN,λi hi gK=>?_⟩;by_cases e:i=k
   ·subst e;refine⟨DB hi,?_⟩;rw[RE];exact⟨lX,λbH bI=>by
     obtain⟨y,aE,rfl⟩:=w3 bI;exact DC y aE (by omega)⟩
   ·exact oG i hi (by simp only at gK;omega)
  refine b9.mk (λbe=>a1.mk (λbT=>?_) (λbT=>?_)) (λbe=>?_)
  ·have gr:q<u.n:=by simpa using be
   have uJ:p<300:=by have a2:((p:Nat):Int)<300:=hX bT;omega
   obtain⟨lX,jN,oG,DB,DC⟩:=DA uJ;have jh:q<u.ae.length:=by omega
   obtain⟨z6,J1,J2⟩:=e8.aV.row aH.da gr jh;have bI:=e8.ae _ (et jh);have cZ:=bI.c6;have sY:∀ M,cx I M ((z6.add (q*9)).add 8) 1 [.slice u.ae[q].ka u.ae[q].kn u.ae[q].h2]:=λM=>(J2 M).part (k:=8) (m:=1) (by decide);have zV:∀ M,cx I M ((z6.add (q*9)).add 5) 1 [.string u.ae[q].t]:=λM=>(J2 M).part (k:=5) (m:=1) (by decide);generalize RF:u.ae[q]=bH at bI cZ sY zV;refine dt.draw a8 rfl rfl rfl ?_;refine c2.mk z6 q J1 rfl gr ?_;refine ba.mk _ (sY _) ?_;refine bp.mk ((p+min 300 bH.kn:Nat):Int) (gS (by omega) (by omega)) ?_;refine c2.mk z6 q J1 rfl gr ?_;refine ba.mk _ (zV _) ?_;refine qk.mk (by decide) ?_;refine bp.mk ((bH.t.size/20:Nat):Int) (gS (by rw[CG (by omega)];omega) (by omega)) ?_;refine bp.mk ((p+min 300 bH.kn+min 300 (bH.t.size/20):Nat):Int) (gS (by omega) (by omega)) ?_;refine bp.mk _ (iK (i:=q) (by omega)) ?_;refine⟨(_,q+1),⟨⟨⟨by simp only;omega,by simp only;omega,λer=>?_⟩,by simp only;omega⟩,by simp only;omega⟩,.refl,y4,.cons rfl (.cons rfl (.nil))⟩;simp only at er |-;refine⟨lX,by omega,oG,DB,λi hi gK=>?_⟩;by_cases e:i=q;·subst e;rw[RF];exact⟨by omega,by omega⟩
   ·exact DC i hi (by omega)
  ·have uJ:300<=p:=by have a2:¬ ((p:Nat):Int)<300:=kc bT;omega
   refine bp.mk _ (iK (i:=k) (by omega)) ?_;exact⟨(p,k+1),⟨⟨out λh=>by omega,xB⟩,by simp only;omega⟩,.refl,ei,.cons rfl (.nil)⟩
  ·have gr:u.n<=q:=by simpa using be
   refine bp.mk _ (iK (i:=k) (by omega)) ?_;exact⟨(p,k+1),⟨⟨out λh=>by omega,xB⟩,by simp only;omega⟩,.refl,ei,.cons rfl (.nil)⟩
 ·have ot:300<=m:=by have a2:¬ ((m:Nat):Int)<300:=kc aL;omega
  refine b9.mk (λaI=>?_) (λaI=>?_)
  ·have aI:decide ((300:Int)<=(m:Int))=false:=aI;have lb:m<300:=by have:=kc aI;omega
   refine⟨_,_,.refl,⟨_,rfl,λaQ=>?_⟩,rfl,rfl⟩;have aQ:decide ((30:Int)<(s.size:Int))=false:=aQ;exact⟨fin (λh=>by omega) lb,by have:=kc aQ;omega⟩
  ·exact⟨_,_,.refl,⟨true,rfl,λh=>by cases h⟩,rfl,rfl⟩
 ·have Ql:g.n<=k:=by simpa using ak
  refine b9.mk (λaI=>?_) (λaI=>?_)
  ·have aI:decide ((300:Int)<=(m:Int))=false:=aI;have lb:m<300:=by have:=kc aI;omega
   refine⟨_,_,.refl,⟨_,rfl,λaQ=>?_⟩,rfl,rfl⟩;have aQ:decide ((30:Int)<(s.size:Int))=false:=aQ;exact⟨fin (λh=>by omega) lb,by have:=kc aQ;omega⟩
  ·exact⟨_,_,.refl,⟨true,rfl,λh=>by cases h⟩,rfl,rfl⟩
section
variable{X:bO}{o:Oper}{F:Fr}{C:b6}{I:aG}{M:List aC}{K:dE}
def a9.RG(aA:bV X.P X.E){e:Nat}(ar:o.op=.convert src dst x)(ao:∀ d,o.dst=some d->d<X.n)
 (aq:X.E src=some cA) (cZ:cA.bc=.slice e) (he:X.E e=some av) (iG:av.bc=.int .u8) (kY:X.E dst=some w5) (e1:w5.bc=.string)
  {ad:Addr} {n:Nat} {l:List UInt8} (ab:a' F x=.val (.slice (some ad) n c)) (aF:l.length=n) (cj:cx I M ad n (l.map λb=>.int .u8 b.toNat))
  (h:K (put o.dst (.val (.string ⟨l.toArray⟩)) F) C I M):a9 X o F C I M K:=by
 subst aF;refine⟨λa w Q ⟨β,aM⟩=>?_⟩;obtain⟨an,cs,T,ah,aj,af,au⟩:=cj;have aw:=aj.heap aM.holds;obtain⟨d,dv,dN⟩:=(aA _ _ aq).dr;have U:d=.slice e:=by rw[cZ]at dN;cases d<;>simp_all[dh]
 subst U;obtain⟨d2,rc,lT⟩:=(aA _ _ he).dr;have aa:d2=.int .u8:=by rw[iG]at lT;cases d2<;>simp_all[dh]
 subst aa;obtain⟨d3,re,zT⟩:=(aA _ _ kY).dr;have ak:d3=.string:=by rw[e1]at zT;cases d3<;>simp_all[dh]
 subst ak;have aB:∀ j (ap:j<l.length),w.cell? (ad.add j)=some (.int .u8 (l[j].toNat:Int)):=by
  intro j ap;rw[cY ad an,pq aw];have iB:(l.map λb=>Value.int .u8 b.toNat)[j]?=some (.int .u8 (l[j].toNat:Int)):=by simp[ap]
  rw[<-af,hW,ck ap,l8]at iB;simpa using iB
 have ex:=b1 aM.ah ab;refine qn aM ao (by rw[ar];simp) ?_ h;unfold execOp;simp only[ar,bo,bR,ex,run_convert_bytes_back w src dst e ad c l dv rc re aB,bd]
end
section
variable{X:bO}{F:Fr}{C:b6}{I:aG}{M:List aC}{o:Oper}{K:dE}
def a9.RH(aA:bV X.P X.E){e:Nat}(ar:o.op=.convert src dst x)(ao:∀ d,o.dst=some d->d<X.n)
 (aq:X.E src=some cA) (cZ:cA.bc=.slice e) (he:X.E e=some av) (iG:av.bc=.int .u8) (kY:X.E dst=some w5) (e1:w5.bc=.string)
 (ab:a' F x=.val (.slice none 0 c))
  (h:K (put o.dst (.val (.string ⟨#[]⟩)) F) C I M):a9 X o F C I M K:=by
 refine⟨λa w Q ⟨β,aM⟩=>?_⟩;obtain⟨d,dv,dN⟩:=(aA _ _ aq).dr;have U:d=.slice e:=by rw[cZ]at dN;cases d<;>simp_all[dh]
 subst U;obtain⟨d2,rc,lT⟩:=(aA _ _ he).dr;have aa:d2=.int .u8:=by rw[iG]at lT;cases d2<;>simp_all[dh]
 subst aa;obtain⟨d3,re,zT⟩:=(aA _ _ kY).dr;have ak:d3=.string:=by rw[e1]at zT;cases d3<;>simp_all[dh]
 subst ak;have ex:=b1 aM.ah ab;refine qn aM ao (by rw[ar];simp) ?_ h;unfold execOp;have dg:(convert src dst (.slice none 0 c)).run X.P w=.ok (.string ⟨#[]⟩) w:=by rw[run_convert_bytes_string w src dst e none 0 c dv rc re];rfl
 simp only[ar,bo,bR,ex,dg,bd]
end
def aY.whole(post:Value->aG->List aC->Prop)(an:Spec P f args I M post)(k:∀ v I' M',(∀ b o,I b=some o->I' b=some o)->post v I' M'->K v I' M'):aY bA P f args I M K:=
 .mk M [] post (by simp) an λv I' M' U aa=>by rw[hd];exact k v I' M' U aa
def iX.whole{soft:Bool}(post:Value->aG->List aC->Prop)(an:Spec P f args I M post)(h4:∀ v I' M',post v I' M'->∀ x∈M,x∈M')(k:∀ v I' M',(∀ b o,I b=some o->I' b=some o)->post v I' M'->K v I' M'):iX soft bA P f args I M K:=
 .G6 M [] post (by simp) an h4 λv I' M' U aa=>by rw[hd];exact k v I' M' U aa
section
variable{X:bO}{β:Nat->Nat}{a:Act}{w:World}{F:Fr}{C:b6}{I:aG}{M:List aC}{o:Oper}{K:dE}
def a9.gh(h:a9 X o F C I M λF C I M=>∃ I' M',ht X.bA I M I' M'/\K F C I' M'):a9 X o F C I M K:=by obtain⟨h⟩:=h;refine⟨λa w Q aM=>l9 ?_ (h a w Q aM)⟩;rintro bl w'⟨cy,C',I',M',⟨β,al⟩,du,cQ,hw,aj⟩;exact⟨cy,C',du,cQ,⟨β,al.gh hw⟩,aj⟩
def a9.DD(aA:bV X.P X.E){s:Operand}{t:Nat}(ar:o.op=.call { callee:=.builtin .append,args:=#[s,x],argTypes:=#[t,t] })(ao:∀ d,o.dst=some d->d<X.n)
  {e:Nat} (aq:X.E t=some cA) (cZ:cA.bc=.slice e) (he:X.E e=some av)
  (os:bh) {xs:List Value} (bm:os.ok av.size xs) (an:a' F s=.val os.val)
  {sa:Option Addr} {m c':Nat} {news:List Value} (ab:a' F x=.val (.slice sa m c')) (au:news.length=m*av.size) (aF:0<m->∃ ad,sa=some ad/\cx I M ad (m*av.size) news) (U:eP news=true)
  (pre post:List aC) (aZ:M=pre++(os.bF e++post)) (cR:os.n+m<=9223372036854775807) (bU:(os.n+m)*av.bytes<=140737488355328)
  (k:∀ f':bh,f'.n=os.n+m->(0<m->∀ g,f'.a=some g->I g=none)->f'.ok av.size (xs++news)->K (put o.dst (.val f'.val) F) C I (pre++(f'.bF e++post))):a9 X o F C I M K:=by
 by_cases aD:m=0
 ·subst aD;have h6:news=[]:=h7 (by simpa using au);subst h6;refine .Cv aA ar ao aq cZ aq (λk=>by rw[cZ];simp) he (sa:=os.a.map λg=>⟨g,0,none⟩) (n:=os.n) (c:=os.c) an ?_ ab (.inl ⟨_,_,rfl⟩) ?_
  ·cases aN:os.a with
   |none=>obtain⟨eL,eV⟩:=bm.nil aN;omega
   |some g=>exact(bm.cap g aN).2.1
  ·have:=k os rfl (λh=>by omega) (by rw[hd];exact bm);rw[aZ];exact this
 obtain⟨ad,rfl,cj⟩:=aF (by omega);refine .gh (.OZ aA ar ao aq cZ he os bm an (m:=m) (news:=news) ab (by omega) cj U (Mr:=pre++post) ?_ (by unfold maxLen;exact cR) bU ?_)
 ·rw[aZ];exact(List.perm_append_comm_assoc _ _ _)
 ·intro g c cur a7 eL eV fW g4;refine⟨I,pre++((⟨some g,os.n+m,c,cur⟩:bh).bF e++post),.perm ?_ .refl,k ⟨some g,os.n+m,c,cur⟩ rfl (λ_ dA aw=>by cases aw;exact a7) ⟨?_,(λh=>by cases h),λdA aw=>?_⟩⟩
  ·exact q2.symm
  ·rw[cP,bm.len,au,h9]
  ·cases aw;exact⟨eL,eV,fW,g4⟩
end
end Go.V
