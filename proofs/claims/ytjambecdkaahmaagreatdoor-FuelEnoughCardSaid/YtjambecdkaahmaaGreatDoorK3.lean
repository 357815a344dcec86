/- Part 3 of what the proofs of this seat share: the executor, data in memory, walks.
-/
import Derived.Test.YtjambecdkaahmaaGreatDoorK2
import Derived.WideMake
import Derived.ChangeSame
import Derived.ChangeArms
import Derived.OpenShut
import Derived.Deep.DeepHandedRow
import Derived.Lib.LaidTab
import Derived.Test.YtjambecdkaahmaaGreatDoorRows
import Derived.Test.YtjambecdkaahmaaGreatDoorCards
import Derived.Test.YtjambecdkaahmaaGreatDoorTie
import Derived.WalkKit
import Derived.ProofKit
import Derived.WideKeyArgs
import Derived.Below
import Derived.JoinedOf
import Derived.Carry
set_option linter.all false
set_option maxHeartbeats 8000000
set_option maxRecDepth 100000
namespace Go.V
open Go Go.Proofs
def bG:=@decide_eq_false
def cu:=@of_decide_eq_false
def bF:=@Nat.zero_le
def dF:=@decide_eq_true
def mr:=@List.flatMap_append
def oc:=@Nat.add_sub_cancel'
def ld:=@Option.some.inj
def ms:=@List.map_map
def vR:=@List.getElem_of_mem
def vS:=@Bool.not_eq_false'
def Ev:=@MapKept.run_getObj_map
def zb:=@List.cons.injEq
def AL:=@Nat.min_le_right
def Ew:=@MapKept.run_checkKey
def Ex:=@MapKept.run_findKey
def Hl:=@Bool.and_eq_false_iff
def Hm:=@List.mem_of_mem_take
def Cw:=@List.sum_append
def KT:=@ByteArray.size_append
def zc:=@decide_true
def KU:=@Int.ofNat_eq_natCast
def Py:=@MapKept.run_setObj_map
def Pz:=@Array.getElem?_eq_none
def KV:=@List.all_eq_false
def KW:=@DataW.trod_string
def Ey:=@Nat.mul_comm
def KX:=@List.all_append
def Hn:=@Nat.lt_or_ge
def PA:=@List.flatten_cons
def Ez:=@Nat.mod_lt
def KY:=@Prod.mk.injEq
def PB:=@List.not_mem_nil
def PC:=@DataW.trod_array
variable{I:a5}{M:List aF}{os:bf}{α:Type}{size j a i k sz fuel aq pl:Nat}{aX:List Int}{d:bh}{P:Program}{t:eH}{x y:Operand}{g:cA}{w:Bool}{F:Fr}{C:dX}{vs cs:List Value}{s:ByteArray}{dT uO:eE}{l:List (ByteArray×Int)}{v:Value}{args:Array Value}{W kv:World}{cT:Array Field}{rows:List (List Value)}{p:List MemPlace}
def bf.ok.row{f:α->List Value}(ar:∀ x,(f x).length=size)(ay:0<size){l:List α}(h:os.ok size (l.flatMap f)){e:Nat}(a2:∀ x∈os.aO e,x∈M)(an:j<l.length) :
  ∃ ad,os.a.map (λg=>(⟨g,0,none⟩:Addr))=some ad/\cx I M (ad.add (j*size)) size (f l[j]):=by
 have az:l.length=os.n:=by have U:=h.len;rw[fu f size ar]at U;exact Nat.eq_of_mul_eq_mul_right ay U
 cases aH:os.a with
 |none=>have:=(h.nil aH).1;omega
 |some g=>
  obtain⟨U,aa,af,aN⟩:=h.cap g aH;refine⟨⟨g,0,none⟩,rfl,?_⟩;have bz:j*size+size<=os.n*size:=by have:=s7 size (show j+1<=os.n by omega);rw[j3,qj]at this;exact this
  have ft:os.n*size<=os.aY.length:=by rw[U];exact s7 _ aa
  have:=dt (I:=I) (M:=M) (b:=g) (T:=e) (cs:=os.aY) (a2 _ (by simp[bf.aO,aH])) (k:=j*size) (n:=size) (by omega);have aC:(os.aY.drop (j*size)).take size=f l[j]:=by rw[<-y8 f size ar l j an,<-aN,Ay,vG];congr 1;omega
  rw[aC]at this;exact this
def Cx:ByteArray:=⟨#[34]⟩
def AM:ByteArray:=⟨#[93,45,94]⟩
def Ho(s:ByteArray):List UInt8:=[34]++s.data.toList.flatMap (pG · Cx)++[34]
def strOf(l:List UInt8):ByteArray:=⟨l.toArray⟩
def Hp{α β:Type}(f:α->List β)(m:Nat)(ar:∀ x,(f x).length<=m):∀ l:List α,(l.flatMap f).length<=m*l.length
 |[]=>by simp
 |x::l=>by have U:=Hp f m ar l;have aa:=ar x;simp only[qh,di,eM,Nat.mul_add];omega
def WZ(s:ByteArray)(ax:s.size<=1099511627776):Spec Tryz.prog 278 [.string s] I [] λr I' M'=>r=.string (strOf (Ho s))/\I'=I/\M'=[]:=by
 refine bY [3] aV Tryz.func278 rfl rfl rfl ?_;intro B ay;refine cy.mk λb ag Em=>?_;refine a9.mk (gR.new.M b) [] _ (.refl _) (qo b gR.KM 34 (by decide)) ?_;rintro v I' M' -⟨rfl,rfl,xn,gx,zd,rfl⟩;refine ea.inv (ι:=Nat×gR) (λp=>{ bK:=[(0,.val (.string s)),(3,.val (ptr b)),(4,.val (.int .i64 p.1))],dz:=I',d':=p.2.M b }) (λp=>p.1<=s.size/\p.2.ok/\p.2.c1=[34]++(s.data.toList.take p.1).flatMap (pG · Cx)) (λp=>s.size-p.1) ?_ ?_
 ·exact⟨(0,xn),⟨by simp,gx,by simp[zd,gR.new]⟩,.perm (by simp) .refl,gX,.nil⟩
 ·rintro⟨i,x⟩⟨hi,ab,pK⟩;simp only at hi ab pK;have cg:x.c1.length<=1+4*i:=by rw[pK];have:=Hp (pG · Cx) 4 (λc=>Hh c Cx) (s.data.toList.take i);have aa:=GX i s.data.toList;simp only[di,eM,ko];omega
  refine aM.mk (λh=>?_) (λh=>?_)
  ·have a0:i<s.size:=by simpa using h
   have bZ:i<s.data.toList.length:=a0;refine yR.mk i rfl a0 ?_;refine a9.mk (x.M b) [] _ (by simp) (KO b ab s[i] Cx (by omega)) ?_;rintro v I' M' -⟨rfl,y,aT,ia,rfl⟩;have gB:IntKind.i64.wrap ((i:Int)+1)=((i+1:Nat):Int):=by rw[wrap_i64 ⟨by omega,by omega⟩];omega
   refine bb.mk _ gB ?_;refine⟨(i+1,y),⟨⟨by simp only;omega,aT,?_⟩,by simp only;omega⟩,.perm (by simp) .refl,gX,.nil⟩;simp only;rw[ia,pK,iT bZ,mr,gz];congr 1;simp;rfl
  ·have cE:s.size<=i:=by simpa using h
   have gq:s.data.toList.take i=s.data.toList:=gM cE;refine a9.mk (x.M b) [] _ (by simp) (qo b ab 34 (by omega)) ?_;rintro v I' M' -⟨rfl,rfl,y,aT,ia,rfl⟩;refine a9.mk (y.M b) [] _ (by simp) (y9 b aT (by rw[ia];simp;omega)) ?_;rintro v I' M' -⟨rfl,rfl,rfl⟩;refine⟨_,_,.refl,?_,rfl,by simp⟩;rw[ia,pK,gq];rfl
def vT(p:UInt8×UInt8):List UInt8:=
 pG p.1 AM++((bif decide (1<IntKind.u8.wrap ((p.2.toNat:Int)-p.1.toNat))then [45]else [])++(bif !decide ((p.2.toNat:Int)=p.1.toNat)then pG p.2 AM else []))
def Cy(aX:List Int)(a b c d:Int):List UInt8:=
 bif (a == j8 0&&(b == j8 0&&(c == j8 0&&d == j8 0)))then [46]else [91]++(qq (jP aX 0 [a,b,c,d])).flatMap vT++[93]
def W0(p:UInt8×UInt8):(vT p).length<=9:=by
 have U:=Hh p.1 AM;have aa:=Hh p.2 AM;unfold vT;cases decide (1<IntKind.u8.wrap ((p.2.toNat:Int)-p.1.toNat))<;>cases decide ((p.2.toNat:Int)=p.1.toNat)<;>simp<;>omega
def W1(aX:List Int)(a b c d:Int):(qq (jP aX 0 [a,b,c,d])).length<=256:=by have U:=Pw aX [a,b,c,d] 0;have aa:=WW (jP aX 0 [a,b,c,d]);simp only[eM,ko]at U;omega
def ahk(aX:List Int)(a b c d:Int):(Cy aX a b c d).length<=2306:=by
 have U:=W1 aX a b c d;have aa:=Hp vT 9 W0 (qq (jP aX 0 [a,b,c,d]));unfold Cy;cases(a == j8 0&&(b == j8 0&&(c == j8 0&&d == j8 0)))
 ·simp only[aQ,di,eM,ko];omega
 ·simp
def ahl(Cv:tt I aX){a b c d:Int}(xB:∀ x∈[a,b,c,d],hh x):Spec Tryz.prog 279 [.agg #[.int .u64 a,.int .u64 b,.int .u64 c,.int .u64 d]] I []
  λr I' M'=>r=.string (strOf (Cy aX a b c d))/\(∀ b o,I b=some o->I' b=some o)/\M'=[]:=by
 refine bY [3] aV Tryz.func279 rfl rfl rfl ?_;intro B ay;refine cq.draw aV rfl rfl rfl ?_;refine hx.mk _ ag8 ?_;rintro v I' M' -⟨rfl,rfl,rfl⟩;refine fU.V4 aV (e:=47) rfl rfl rfl rfl (by kernel_rfl) ?_;refine aM.mk (λh=>?_) (λh=>?_)
 ·refine⟨_,_,.refl,?_,λ_ _ h=>h,rfl⟩;simp only[Cy,h];rfl
 ·refine cy.mk λg aB vK=>?_;refine a9.mk (gR.new.M g) [] _ (.refl _) (qo g gR.KM 91 (by decide)) ?_;rintro v I' M' -⟨rfl,rfl,xn,gx,zd,rfl⟩;refine a9.mk [] (xn.M g) _ (by simp) (ahi Cv xB) ?_;rintro v cW M1 -⟨b4,os,rfl,cr,rfl⟩;have hA:=W1 aX a b c d;have ft:Cy aX a b c d=[91]++(qq (jP aX 0 [a,b,c,d])).flatMap vT++[93]:=by simp only[Cy,h];rfl
  generalize mS:qq (jP aX 0 [a,b,c,d])=bj at *;have az:bj.length=os.n:=by have:=cr.len;rw[KS]at this;omega
  refine ea.inv (ι:=Nat×gR) (λp=>{ bK:=[(3,.val (ptr g)),(11,.val os.val),(12,.val (.int .i64 os.n)),(13,.val (.int .i64 p.1))],dz:=cW,d':=p.2.M g++os.aO 386 }) (λp=>p.1<=os.n/\p.2.ok/\p.2.c1=[91]++(bj.take p.1).flatMap vT) (λp=>os.n-p.1) ?_ ?_;·exact⟨(0,xn),⟨by simp,gx,by simp[zd,gR.new]⟩,.perm (by simpa using i') .refl,fo,.nil⟩
  ·rintro⟨i,x⟩⟨hi,ab,pK⟩;simp only at hi ab pK;have cg:x.c1.length<=1+9*i:=by rw[pK];have:=Hp vT 9 W0 (bj.take i);have aa:=GX i bj;simp only[di,eM,ko];omega
   refine aM.mk (λh=>?_) (λh=>?_)
   ·have a0:i<os.n:=by simpa using h
    have bZ:i<bj.length:=by omega
    obtain⟨ad,b3,br⟩:=bf.ok.row (I:=cW) (M:=x.M g++os.aO 386) (f:=kP) (λ_=>rfl) (by decide) cr (e:=386) (λy aT=>by simp[aT]) bZ;refine bl.mk ad i b3 rfl a0 ?_;refine aw.mk _ br ?_;generalize aK:bj[i]=p;refine dR.mk 0 rfl (by decide) ?_;refine a9.mk (x.M g) (os.aO 386) _ (.refl _) (KO g ab p.1 AM (by omega)) ?_;rintro v I' M' -⟨rfl,y,aT,ia,rfl⟩;have WQ:y.c1.length<=5+9*i:=by rw[ia,di];have:=Hh p.1 AM;omega
    refine dR.mk 1 rfl (by decide) ?_;refine dR.mk 0 rfl (by decide) ?_;refine bb.mk _ rfl ?_;refine aM.mk (λeJ=>?_) (λeJ=>?_)
    ·refine a9.mk (y.M g) (os.aO 386) _ (by simp) (qo g aT 45 (by omega)) ?_;rintro v I' M' -⟨rfl,rfl,u,hu,y',rfl⟩;have W2:u.c1.length<=6+9*i:=by rw[y'];simp;omega
     refine dR.mk 1 rfl (by decide) ?_;refine dR.mk 0 rfl (by decide) ?_;refine aM.mk (λc3=>?_) (λc3=>?_)
     ·refine dR.mk 1 rfl (by decide) ?_;refine a9.mk (u.M g) (os.aO 386) _ (by simp) (KO g hu p.2 AM (by omega)) ?_;rintro v I' M' -⟨rfl,z,bk,uJ,rfl⟩;have gB:IntKind.i64.wrap ((i:Int)+1)=((i+1:Nat):Int):=by rw[wrap_i64 ⟨by omega,by omega⟩];omega
      refine bb.mk _ gB ?_;refine⟨(i+1,z),⟨⟨by simp only;omega,bk,?_⟩,by simp only;omega⟩,.perm (by simp) .refl,fo,.nil⟩;simp only;rw[uJ,y',ia,pK,iT bZ,mr,aK];simp[vT,eJ,c3]
     ·have gB:IntKind.i64.wrap ((i:Int)+1)=((i+1:Nat):Int):=by rw[wrap_i64 ⟨by omega,by omega⟩];omega
      refine bb.mk _ gB ?_;refine⟨(i+1,u),⟨⟨by simp only;omega,hu,?_⟩,by simp only;omega⟩,.perm (by simp) .refl,fo,.nil⟩;simp only;rw[y',ia,pK,iT bZ,mr,aK];simp[vT,eJ,c3]
    ·refine dR.mk 1 rfl (by decide) ?_;refine dR.mk 0 rfl (by decide) ?_;refine aM.mk (λc3=>?_) (λc3=>?_)
     ·refine dR.mk 1 rfl (by decide) ?_;refine a9.mk (y.M g) (os.aO 386) _ (by simp) (KO g aT p.2 AM (by omega)) ?_;rintro v I' M' -⟨rfl,z,bk,uJ,rfl⟩;have gB:IntKind.i64.wrap ((i:Int)+1)=((i+1:Nat):Int):=by rw[wrap_i64 ⟨by omega,by omega⟩];omega
      refine bb.mk _ gB ?_;refine⟨(i+1,z),⟨⟨by simp only;omega,bk,?_⟩,by simp only;omega⟩,.perm (by simp) .refl,fo,.nil⟩;simp only;rw[uJ,ia,pK,iT bZ,mr,aK];simp[vT,eJ,c3]
     ·have gB:IntKind.i64.wrap ((i:Int)+1)=((i+1:Nat):Int):=by rw[wrap_i64 ⟨by omega,by omega⟩];omega
      refine bb.mk _ gB ?_;refine⟨(i+1,y),⟨⟨by simp only;omega,aT,?_⟩,by simp only;omega⟩,.perm (by simp) .refl,fo,.nil⟩;simp only;rw[ia,pK,iT bZ,mr,aK];simp[vT,eJ,c3]
   ·have cE:os.n<=i:=by simpa using h
    have gq:bj.take i=bj:=gM (by omega);refine a9.mk (x.M g) (os.aO 386) _ (.refl _) (qo g ab 93 (by omega)) ?_;rintro v I' M' -⟨rfl,rfl,y,aT,ia,rfl⟩;refine a9.mk (y.M g) (os.aO 386) _ (.refl _) (y9 g aT (by rw[ia];simp;omega)) ?_;rintro v I' M' -⟨rfl,rfl,rfl⟩;refine⟨_,_,.sub (eN _) .refl,?_,b4,rfl⟩;rw[ia,pK,gq,ft];rfl
structure KZ(d:bh):Prop where
 k:d.k<10
 t:d.t.size<=255
 kR:d.k=6->0<=d.lo/\d.lo<=99/\(d.hi=-1\/(d.lo<=d.hi/\d.hi<=99))
def Hq{n:Int}(h:fits d n=true):KZ d:=by
 unfold fits at h;cases U:decide (10<=d.k)with
 |true=>rw[U]at h;cases h
 |false=>
  rw[U]at h;simp only[aQ]at h;have ae:d.k<10:=by simpa using U
  cases aa:(decide (n<sh d.k.toNat)||(decide (0<=mY d.k.toNat)&&decide (mY d.k.toNat<n)))with
  |true=>rw[aa]at h;cases h
  |false=>
   rw[aa]at h;simp only[aQ]at h;have b':d.t=⟨#[]⟩->d.t.size<=255:=λe=>by rw[e];decide
   cases af:decide (d.k=1)with
   |true=>rw[af]at h;simp only[a4,ct,eY]at h;exact⟨ae,b' h.1,λe=>by simp at af;omega⟩
   |false=>
    rw[af]at h;simp only[aQ]at h;cases aN:decide (d.k=2)with
    |true=>rw[aN]at h;simp only[a4,ct,pk,n8,ny]at h;exact⟨ae,by omega,λe=>by simp at aN;omega⟩
    |false=>
     rw[aN]at h;simp only[aQ]at h;cases bq:(decide (d.k=3)||decide (d.k=9))with
     |true=>rw[bq]at h;simp only[a4,ct]at h;refine⟨ae,?_,λe=>by simp at bq;omega⟩;have:=h.1;unfold oR at this;simp only[ct,eY]at this;omega
     |false=>
      rw[bq]at h;simp only[aQ]at h;cases bp:decide (d.k=6)with
      |true=>
       rw[bp]at h;simp only[a4,ct,eY,pk,n8,ny,Hl]at h;refine⟨ae,b' h.2.2,λ_=>?_⟩;obtain⟨⟨a3,a6,bN⟩,_⟩:=h;refine⟨by omega,by omega,?_⟩;rcases bN with bN | bN
       ·left
        simpa using bN
       ·right
        omega
      |false=>rw[bp]at h;simp only[aQ,ct,eY]at h;exact⟨ae,b' h.2.1,λe=>by simp at bp;omega⟩
def Hr:List Value:=[.int .i64 0,.int .i64 1,.string ⟨#[63]⟩,.int .i64 0,.int .i64 (-1),.string ⟨#[42]⟩,.int .i64 1,.int .i64 (-1),.string ⟨#[43]⟩]
def PD(I:a5):Prop:=∃ T ak,I 3=some (.cells Hr.toArray T ak)
def Cz(lo:Nat)(hi:Int):List UInt8:=
 bif decide (hi=lo)then [123]++n9 lo++[125]else
 bif decide (hi=-1)then [123]++n9 lo++[44,125]else [123]++n9 lo++[44]++n9 hi.toNat++[125]
def uP(lo:Nat)(hi:Int):List UInt8:=
 bif decide ((0:Int)=lo)&&decide (1=hi)then [63]else
 bif decide ((0:Int)=lo)&&decide (-1=hi)then [42]else
 bif decide ((1:Int)=lo)&&decide (-1=hi)then [43]else Cz lo hi
def ahm(lo:Nat)(hi:Int):(Cz lo hi).length<=7:=by
 have U:=Hi lo;have aa:=Hi hi.toNat;unfold Cz;cases decide (hi=lo)<;>cases decide (hi=-1)<;>simp<;>omega
def ahn(lo:Nat)(hi:Int):(uP lo hi).length<=7:=by
 have U:=ahm lo hi;unfold uP;cases(decide ((0:Int)=lo)&&decide (1=hi))<;>cases(decide ((0:Int)=lo)&&decide (-1=hi))<;>cases(decide ((1:Int)=lo)&&decide (-1=hi))<;>simp<;>omega
def W3(n:Nat):(AH n).size<=2:=Hi n
def re(lo hi:Int):bh:=⟨6,0,0,0,0,⟨#[]⟩,lo,hi,none,0,0,[]⟩
def aho{lo:Nat}{hi:Int}(dg:lo<=99)(fT:hi=-1\/((lo:Int)<=hi/\hi<=99)):fits (re lo hi) 1=true:=by
 have aC:sh 6=1:=by decide
 have aA:mY 6=1:=by decide
 rcases fT with rfl | ⟨U,aa⟩
 ·simp[fits,re,aC,aA,bh.oT];exact⟨bG (by omega),bG (by omega)⟩
 ·simp[fits,re,aC,aA,bh.oT];exact⟨bG (by omega),bG (by omega),.inr ⟨bG (by omega),bG (by omega)⟩⟩
def ahp(a b:List UInt8):strOf a++strOf b=strOf (a++b):=by apply Es;simp[strOf]
def fU.AN{t:Nat}{a b:List UInt8}(ax:a.length+b.length<=9223372036854775807){V:Value->Prop}{other:Prop}(h:V (.string (strOf (a++b)))):fU P .add t x y (.val (.string (strOf a))) (.val (.string (strOf b))) V other:=
 fU.concat (a:=strOf a) (b:=strOf b) ax (by rw[ahp];exact h)
def ahq(aJ:si I)(aK:PD I)(lo:Nat)(hi:Int)(dg:lo<=99)(fT:hi=-1\/((lo:Int)<=hi/\hi<=99)):Spec Tryz.prog 280 [.int .i64 lo,.int .i64 hi] I []
  λr I' M'=>r=.string (strOf (uP lo hi))/\I'=I/\M'=[]:=by
 refine bY [] aV Tryz.func280 rfl rfl rfl ?_;intro B ay;have bw:(re lo hi).ok I:=⟨by simp[re],by simp[re,hh],by simp[re,hh],by simp[re,hh],by simp[re,hh],by show(0:Nat)<=_;omega,⟨by simp only[re];omega,by simp only[re];omega⟩,⟨by simp only[re];omega,by simp only[re];omega⟩,⟨rfl,⟨b2 _,by simp[re]⟩,.inl rfl⟩,by simp[re]⟩;refine a9.mk [] [] _ (.refl _) (Wr aJ bw 1) ?_;rintro v I' M' -⟨rfl,rfl,rfl⟩;rw[aho dg fT];refine aM.mk (λh=>by cases h) (λ_=>?_);have br:cx I' ([]++[]) ⟨3,0,none⟩ 9 Hr:=by obtain⟨T,ak,aK⟩:=aK;exact⟨rfl,_,T,ak,.inl aK,rfl,rfl⟩
 refine aw.mk _ br ?_;refine ea.inv (ι:=Nat) (λi=>{ bK:=[(0,.val (.int .i64 lo)),(1,.val (.int .i64 hi)),(12,.val (.agg Hr.toArray)),(13,.val (.int .i64 i))],dz:=I' }) (λi=>i<=3/\(1<=i->(decide ((0:Int)=lo)&&decide (1=hi))=false)/\(2<=i->(decide ((0:Int)=lo)&&decide (-1=hi))=false)/\(3<=i->(decide ((1:Int)=lo)&&decide (-1=hi))=false)) (λi=>3-i) ?_ ?_
 ·exact⟨0,⟨by simp,by simp,by simp,by simp⟩,.refl,fo,.nil⟩
 ·rintro i⟨kl,dI,m2,CA⟩
  match i,kl with
  |0,_=>
   refine aM.mk (λ_=>?_) (λh=>by simp at h);refine dR.mk 0 rfl (by decide) ?_;have next:(decide ((0:Int)=lo)&&decide (1=hi))=false->(((0+1:Nat)<=3/\(1<=(0+1:Nat)->(decide ((0:Int)=lo)&&decide (1=hi))=false)/\(2<=(0+1:Nat)->(decide ((0:Int)=lo)&&decide (-1=hi))=false)/\(3<=(0+1:Nat)->(decide ((1:Int)=lo)&&decide (-1=hi))=false))/\3-(0+1)<3-0):=λh=>by
    refine⟨⟨by simp,λ_=>?_,λaR=>?_,λaR=>?_⟩,by simp⟩;·exact h
    ·simp at aR
    ·simp at aR
   refine c0.mk (λa3=>?_) (λa3=>?_)
   ·refine aM.mk (λa6=>?_) (λa6=>?_)
    ·refine⟨_,_,.refl,?_,rfl,rfl⟩;have:uP lo hi=[63]:=by unfold uP;rw[a3,a6];rfl
     rw[this];rfl
    ·refine bb.mk 1 (by decide) ?_;exact⟨1,next (by rw[a3,a6];rfl),.refl,fo,.nil⟩
   ·refine bb.mk 1 (by decide) ?_;exact⟨1,next (by rw[a3];rfl),.refl,fo,.nil⟩
  |1,_=>
   refine aM.mk (λ_=>?_) (λh=>by simp at h);refine dR.mk 1 rfl (by decide) ?_;have next:(decide ((0:Int)=lo)&&decide (-1=hi))=false->(((1+1:Nat)<=3/\(1<=(1+1:Nat)->(decide ((0:Int)=lo)&&decide (1=hi))=false)/\(2<=(1+1:Nat)->(decide ((0:Int)=lo)&&decide (-1=hi))=false)/\(3<=(1+1:Nat)->(decide ((1:Int)=lo)&&decide (-1=hi))=false))/\3-(1+1)<3-1):=λh=>by
    refine⟨⟨by simp,λ_=>?_,λaR=>?_,λaR=>?_⟩,by simp⟩;·exact dI (by decide)
    ·exact h
    ·simp at aR
   refine c0.mk (λa3=>?_) (λa3=>?_)
   ·refine aM.mk (λa6=>?_) (λa6=>?_)
    ·refine⟨_,_,.refl,?_,rfl,rfl⟩;have:uP lo hi=[42]:=by unfold uP;rw[dI (by decide),a3,a6];rfl
     rw[this];rfl
    ·refine bb.mk 2 (by decide) ?_;exact⟨2,next (by rw[a3,a6];rfl),.refl,fo,.nil⟩
   ·refine bb.mk 2 (by decide) ?_;exact⟨2,next (by rw[a3];rfl),.refl,fo,.nil⟩
  |2,_=>
   refine aM.mk (λ_=>?_) (λh=>by simp at h);refine dR.mk 2 rfl (by decide) ?_;have next:(decide ((1:Int)=lo)&&decide (-1=hi))=false->(((2+1:Nat)<=3/\(1<=(2+1:Nat)->(decide ((0:Int)=lo)&&decide (1=hi))=false)/\(2<=(2+1:Nat)->(decide ((0:Int)=lo)&&decide (-1=hi))=false)/\(3<=(2+1:Nat)->(decide ((1:Int)=lo)&&decide (-1=hi))=false))/\3-(2+1)<3-2):=λh=>by
    refine⟨⟨by simp,λ_=>?_,λaR=>?_,λaR=>?_⟩,by simp⟩;·exact dI (by decide)
    ·exact m2 (by decide)
    ·exact h
   refine c0.mk (λa3=>?_) (λa3=>?_)
   ·refine aM.mk (λa6=>?_) (λa6=>?_)
    ·refine⟨_,_,.refl,?_,rfl,rfl⟩;have:uP lo hi=[43]:=by unfold uP;rw[dI (by decide),m2 (by decide),a3,a6];rfl
     rw[this];rfl
    ·refine bb.mk 3 (by decide) ?_;exact⟨3,next (by rw[a3,a6];rfl),.refl,fo,.nil⟩
   ·refine bb.mk 3 (by decide) ?_;exact⟨3,next (by rw[a3];rfl),.refl,fo,.nil⟩
  |3,_=>
   refine aM.mk (λh=>by simp at h) (λ_=>?_);have aC:=dI (by decide);have aA:=m2 (by decide);have bx:=CA (by decide);have km:uP lo hi=Cz lo hi:=by unfold uP;rw[aC,aA,bx];rfl
   rw[km];have mu:=W3 lo;have B6:=W3 hi.toNat;have mu:=Hi lo;refine aM.mk (λh=>?_) (λh=>?_);·refine a9.mk [] [] _ (.refl _) (KQ lo (by omega)) ?_;rintro v I' M' -⟨rfl,rfl,rfl⟩;refine fU.AN (a:=[123]) (b:=n9 lo) (by simp;omega) ?_;refine fU.AN (a:=[123]++n9 lo) (b:=[125]) (by simp;omega) ?_;refine⟨_,_,.refl,?_,rfl,rfl⟩;rw[Cz,h];rfl
   ·refine aM.mk (λk=>?_) (λk=>?_)
    ·refine a9.mk [] [] _ (.refl _) (KQ lo (by omega)) ?_;rintro v I' M' -⟨rfl,rfl,rfl⟩;refine fU.AN (a:=[123]) (b:=n9 lo) (by simp;omega) ?_;refine fU.AN (a:=[123]++n9 lo) (b:=[44,125]) (by simp;omega) ?_;refine⟨_,_,.refl,?_,rfl,rfl⟩;rw[Cz,h,k];rfl
    ·refine a9.mk [] [] _ (.refl _) (KQ lo (by omega)) ?_;rintro v I' M' -⟨rfl,rfl,rfl⟩;have ae:hi≠-1:=by simpa using k
     obtain⟨az,rfl⟩:=lX (show 0<=hi by omega);have B6:=Hi az;refine fU.AN (a:=[123]) (b:=n9 lo) (by simp;omega) ?_;refine fU.AN (a:=[123]++n9 lo) (b:=[44]) (by simp;omega) ?_;refine a9.mk [] [] _ (.refl _) (KQ az (by omega)) ?_;rintro v I' M' -⟨rfl,rfl,rfl⟩;refine fU.AN (a:=[123]++n9 lo++[44]) (b:=n9 az) (by simp;omega) ?_;refine fU.AN (a:=[123]++n9 lo++[44]++n9 az) (b:=[125]) (by simp;omega) ?_;refine⟨_,_,.refl,?_,rfl,rfl⟩;rw[Cz,h,k];rfl
def vU:List (List UInt8):=[[],[],[],[],[],[],[],[],[],[],[],[],[],[32],[],[],[32,47,32],[],[],[],[],[38],[],[],[33],[],[],[60],[],[62]]
def tv(j:Nat):List UInt8:=vU.getD j []
def Hs(I:a5):Prop:=∃ T ak,I 1=some (.cells (vU.map λl=>Value.string (strOf l)).toArray T ak)
def Hs.rd(h:Hs I)(M:List aF)(an:i+j<30):cx I M ((Addr.add ⟨1,0,none⟩ i).add j) 1 [.string (strOf (tv (i+j)))]:=by
 obtain⟨T,ak,h⟩:=h;rw[AK,dY _ rfl];refine⟨rfl,_,T,ak,.inl h,?_,rfl⟩;have U:i+j<(vU.map λl=>Value.string (strOf l)).length:=by simp[vU];omega
 have aa:i+j<vU.length:=by simp[vU];omega
 simp only[dp];rw[fg U,oL,oM];simp[tv,dB,aa]
def Ht(j:Nat):(tv j).length<=3:=by
 by_cases h:j<30
 ·have:∀ j:Fin 30,(tv j.val).length<=3:=by decide
  exact this ⟨j,h⟩
 ·have:vU.length<=j:=by simp[vU];omega
  simp[tv,dB,this]
def tw(aX:List Int)(d:bh):List UInt8:=
 bif decide (d.k=0)||decide (d.k=2)then Ho d.t else
 bif decide (d.k=1)then Cy aX d.e2 d.s1 d.s2 d.eK else
 bif decide (d.k=3)then d.t.data.toList else
 bif decide (d.k=9)then tv 27++d.t.data.toList++[58,32]else tv (d.k.toNat*3)
def rf(d:bh):List UInt8:=bif decide (d.k=6)then uP d.lo.toNat d.hi else tv (d.k.toNat*3+2)
def ahr(s:ByteArray):strOf s.data.toList=s:=Es (by simp[strOf])
def PE(aJ:si I)(aK:PD I)(K0:Hs I)(ah:d.ok I)(ar:KZ d):Spec Tryz.prog 263 [d.val] I [] λr I' M'=>r=.string (strOf (rf d))/\I'=I/\M'=[]:=by
 refine bY [] aV Tryz.func263 rfl rfl rfl ?_;intro B ay;refine aM.mk (λh=>?_) (λh=>?_)
 ·obtain⟨a3,a6,bN⟩:=ar.kR (by simpa using h);have aC:d.lo=((d.lo.toNat:Nat):Int):=by omega
  have lS:=ahq aJ aK d.lo.toNat d.hi (by omega) (by omega);rw[<-aC]at lS;refine a9.mk [] [] _ (.refl _) lS ?_;rintro v I' M' -⟨rfl,rfl,rfl⟩;refine⟨_,_,.refl,?_,rfl,rfl⟩;simp only[rf,h];rfl
 ·have ae:=ah.k;have tu:=ar.k;refine dR.mk d.k.toNat (by omega) (by omega) ?_;refine aw.mk _ (K0.rd _ (by show d.k.toNat*3+2<30;omega)) ?_;refine⟨_,_,.refl,?_,rfl,rfl⟩;simp only[rf,h];rfl
def W4(Cv:tt I aX)(K0:Hs I)(ah:d.ok I)(ar:KZ d):Spec Tryz.prog 261 [d.val] I []
  λr I' M'=>r=.string (strOf (tw aX d))/\(∀ b o,I b=some o->I' b=some o)/\M'=[]:=by
 refine bY [] aV Tryz.func261 rfl rfl rfl ?_;intro B ay;have ae:=ah.k;have tu:=ar.k;have aI:=ar.t;have lit:(decide (d.k=0)||decide (d.k=2))=true->tw aX d=Ho d.t:=λh=>by simp only[tw,h];rfl
 refine aM.mk (λU=>?_) (λU=>?_)
 ·refine aM.mk (λ_=>?_) (λh=>by rw[U]at h;cases h);refine a9.mk [] [] _ (.refl _) (WZ d.t (by omega)) ?_;rintro v I' M' -⟨rfl,rfl,rfl⟩;refine⟨_,_,.refl,?_,λ_ _ h=>h,rfl⟩;rw[lit (by rw[U];rfl)]
 ·refine aM.mk (λaa=>?_) (λaa=>?_)
  ·refine a9.mk [] [] _ (.refl _) (WZ d.t (by omega)) ?_;rintro v I' M' -⟨rfl,rfl,rfl⟩;refine⟨_,_,.refl,?_,λ_ _ h=>h,rfl⟩;rw[lit (by rw[aa];simp)]
  ·refine aM.mk (λaf=>?_) (λaf=>?_)
   ·refine a9.mk [] [] _ (.refl _) (ahl Cv (a:=d.e2) (b:=d.s1) (c:=d.s2) (d:=d.eK) (λx ab=>by
     simp only[eu,PB,or_false]at ab;rcases ab with rfl | rfl | rfl | rfl;·exact ah.e2
     ·exact ah.s1
     ·exact ah.s2
     ·exact ah.eK)) ?_
    rintro v I' M' -⟨rfl,bX,rfl⟩;refine⟨_,_,.refl,?_,bX,rfl⟩;simp only[tw,U,aa,af];rfl
   ·refine aM.mk (λaN=>?_) (λaN=>?_)
    ·refine⟨_,_,.refl,?_,λ_ _ h=>h,rfl⟩;simp only[tw,U,aa,af,aN];rw[<-ahr d.t];rfl
    ·refine aM.mk (λbq=>?_) (λbq=>?_)
     ·have AO:d.k=9:=by simpa using bq
      refine cq.draw aV rfl rfl rfl ?_;refine dR.mk 9 AO (by decide) ?_;refine aw.mk _ (K0.rd _ (by decide)) ?_;have g3:(strOf (tv 27)).size=1:=by decide
      refine fU.concat (a:=strOf (tv 27)) (b:=d.t) (by omega) ?_;refine fU.concat (a:=strOf (tv 27)++d.t) (b:=strOf [58,32]) (by rw[KT];show _+2<=_;omega) ?_;refine⟨_,_,.refl,?_,λ_ _ h=>h,rfl⟩;simp only[tw,U,aa,af,aN,bq];refine congrArg Value.string (Es ?_);simp[strOf]
     ·refine dR.mk d.k.toNat (by omega) (by omega) ?_;refine aw.mk _ (K0.rd _ (by show d.k.toNat*3+0<30;omega)) ?_;refine⟨_,_,.refl,?_,λ_ _ h=>h,rfl⟩;simp only[tw,U,aa,af,aN,bq];rfl
def pL(ns:List bh)(k:Int):Int:=(ns.map (·.k)).getD k.toNat 0
def paren(w:Bool)(s:List UInt8):List UInt8:=(bif w then [40]else [])++(s++(bif w then [41]else []))
def xC(sep:List UInt8)(f:Int->List UInt8):Bool->List Int->List UInt8
 |_,[]=>[]| b,k::ks=>(bif b then sep else [])++(f k++xC sep f true ks)
def Hu(d:bh):List UInt8:=tv (d.k.toNat*3+1)
def Hv(aX:List Int)(ns:List bh)(d:bh)(g:Int->List UInt8):List UInt8:=
 tw aX d++(xC (Hu d) (λk=>paren (im d.k (pL ns k)) (g k)) false d.aS++rf d)
def od(aX:List Int)(ns:List bh):Int->List UInt8:=xA [] (Hv aX ns) ns
def sp(aX:List Int)(t:eH):List UInt8:=bif right t then od aX t.ns t.bR else []
def W5{sep:List UInt8}{f g:Int->List UInt8}:∀ {ks:List Int} {b:Bool},(∀ k∈ks,f k=g k)->xC sep f b ks=xC sep g b ks
 |[],b,_=>rfl| k::ks,b,h=>by unfold xC;rw[h k (by simp),W5 λx ab=>h x (by simp[ab])]
def W6(al:right t=true)(an:j<t.ns.length):od aX t.ns j=Hv aX t.ns t.ns[j] (od aX t.ns):=by refine Hf (λd g eD h=>?_) al an;unfold Hv;rw[W5 λk ae=>by rw[h k ae]]
def ahs(w:Bool)(s:List UInt8):(paren w s).length<=s.length+2:=by cases w<;>simp[paren]
def W7{sep:List UInt8}{f:Int->List UInt8}(ax:sep.length<=3){g:Int->Nat}(ar:∀ k,(f k).length+3<=g k):∀ {ks:List Int} {b:Bool},(xC sep f b ks).length<=pE g ks
 |[],b=>by simp[xC,pE]
 |k::ks,b=>by
  have U:=W7 ax ar (ks:=ks) (b:=true);have aa:=ar k;unfold xC;simp only[di,pE,dQ,k']at U |-;cases b<;>simp<;>omega
def PF(aX:List Int)(ar:KZ d):(tw aX d).length<=2400:=by
 have U:(Ho d.t).length<=2+4*d.t.size:=by have:=Hp (pG · Cx) 4 (λc=>Hh c Cx) d.t.data.toList;have aa:d.t.data.toList.length=d.t.size:=rfl;simp only[Ho,di,eM,ko];omega
 have aa:=ahk aX d.e2 d.s1 d.s2 d.eK;have af:=ar.t;have aN:=Ht 27;have bq:=Ht (d.k.toNat*3);have bp:d.t.data.toList.length=d.t.size:=rfl;unfold tw;cases(decide (d.k=0)||decide (d.k=2))<;>cases decide (d.k=1)<;>cases decide (d.k=3)<;>cases decide (d.k=9)<;>simp only[a4,aQ,di,eM,ko]<;>omega
def K1(d:bh):(rf d).length<=7:=by
 have U:=ahn d.lo.toNat d.hi;have aa:=Ht (d.k.toNat*3+2);unfold rf;cases decide (d.k=6)<;>simp only[a4,aQ]<;>omega
def PG{α:Type}(c:Nat):∀ l:List α,(l.map λ_=>c).sum=c*l.length
 |[]=>by simp
 |x::l=>by rw[dQ,k',PG c l,eM,Nat.mul_add];omega
def W8(al:right t=true):(od aX t.ns t.bR).length+5<=2412*t.ns.length:=by
 have h:=WG al (g:=λk=>(od aX t.ns k).length+5) (c:=λ_=>2412) λj an=>by rw[W6 al an];have U:=PF aX (Hq (Ep al an));have aa:=K1 t.ns[j];have af:=W7 (sep:=Hu t.ns[j]) (Ht _) (f:=λk=>paren (im t.ns[j].k (pL t.ns k)) (od aX t.ns k)) (g:=λk=>(od aX t.ns k).length+5) (λk=>by have:=ahs (im t.ns[j].k (pL t.ns k)) (od aX t.ns k);omega) (ks:=t.ns[j].aS) (b:=false);unfold Hv;simp only[di];omega
 rw[PG]at h;exact h
def W9(aX:List Int)(t:eH):(sp aX t).length<=2412*t.ns.length:=by
 unfold sp;cases al:right t with
 |false=>simp| true=>have:=W8 (aX:=aX) al;simp only[a4];omega
abbrev Open:=Nat×Nat×Bool
def oe(e:Open):List Value:=[.int .i64 e.1,.int .i64 e.2.1,.bool e.2.2]
def nodeAt(ns:List bh)(j:Nat):bh:=ns.getD j ⟨0,0,0,0,0,.empty,0,0,none,0,0,[]⟩
def PH(aX:List Int)(ns:List bh)(d:bh)(k:Int):List UInt8:=paren (im d.k (pL ns k)) (od aX ns k)
def pM(aX:List Int)(ns:List bh)(e:Open):List UInt8:=bif decide ((e.2.1:Int)=0)then(bif e.2.2 then [40]else [])++tw aX (nodeAt ns e.1)else []
def vV(aX:List Int)(ns:List bh)(e:Open):List UInt8:=
 pM aX ns e++(xC (Hu (nodeAt ns e.1)) (PH aX ns (nodeAt ns e.1)) (decide (0<(e.2.1:Int))) ((nodeAt ns e.1).aS.drop e.2.1)++(rf (nodeAt ns e.1)++(bif e.2.2 then [41]else [])))
def AP(ns:List bh):Int->Nat:=xA 0 (λd g=>2+pE g d.aS) ns
def oU(ns:List bh)(e:Open):Nat:=1+pE (AP ns) ((nodeAt ns e.1).aS.drop e.2.1)
def xD(ns:List bh)(ao:List Open):Nat:=(ao.map (oU ns)).sum
def vW(aX:List Int)(ns:List bh)(ao:List Open):List UInt8:=ao.reverse.flatMap (vV aX ns)
def CB(aX:List Int)(ns:List bh)(ao:List Open)(e:Open):vW aX ns (ao++[e])=vV aX ns e++vW aX ns ao:=by simp[vW]
def tx(ns:List bh)(ao:List Open)(e:Open):xD ns (ao++[e])=xD ns ao+oU ns e:=by simp[xD]
def W'(ns:List bh):∀ ao:List Open,ao.length<=xD ns ao
 |[]=>by simp
 |e::ao=>by have:=W' ns ao;simp only[xD,dQ,k',eM,oU]at this |-;omega
def xE{ns:List bh}(h:j<ns.length):nodeAt ns j=ns[j]:=by simp[nodeAt,dB,h]
def aht{g eD:Int->Nat}{ks:List Int}(h:∀ k∈ks,g k=eD k):pE g ks=pE eD ks:=by unfold pE;rw[xo h]
def Xa(al:right t=true)(an:j<t.ns.length):AP t.ns j=2+pE (AP t.ns) t.ns[j].aS:=
 Hf (λd g eD h=>by rw[aht h]) al an
def ahu(al:right t=true):AP t.ns t.bR<=2*t.ns.length:=by
 have:=WG al (g:=AP t.ns) (c:=λ_=>2) λj an=>by rw[Xa al an];exact b2 _
 rwa [PG]at this
def Xb(al:right t=true)(an:j<t.ns.length)(w:Bool):vV aX t.ns (j,0,w)=paren w (od aX t.ns j):=by rw[W6 al an];simp only[vV,pM,xE an];cases w<;>simp[paren,Hv,PH]<;>rfl
def Xc(al:right t=true)(an:j<t.ns.length)(w:Bool):oU t.ns (j,0,w)+1=AP t.ns j:=by rw[Xa al an];simp[oU,xE an];omega
def PI(al:right t=true)(an:j<t.ns.length)(hi:i<t.ns[j].aS.length) :
  vV aX t.ns (j,i,w)=pM aX t.ns (j,i,w)++((bif decide (0<(i:Int))then Hu t.ns[j]else [])++(vV aX t.ns (t.ns[j].aS[i].toNat,0,im t.ns[j].k (pL t.ns t.ns[j].aS[i]))++vV aX t.ns (j,i+1,w))):=by
 have ae:=pD al j an _ (dr hi);rw[Xb al (by omega)];have aC:(((t.ns[j].aS[i].toNat:Nat):Int))=t.ns[j].aS[i]:=Aw ae.1;rw[aC];have ah:=fg hi;simp only[vV,xE an];rw[ah];have aA:pM aX t.ns (j,i+1,w)=[]:=by have:decide (((i+1:Nat):Int)=0)=false:=bG (by omega);simp only[pM,this,aQ]
 have bx:decide (0<((i+1:Nat):Int))=true:=dF (by omega);rw[aA,bx];simp only[xC,PH,gz,nz]
def PJ(al:right t=true)(an:j<t.ns.length){w':Bool}(hi:i<t.ns[j].aS.length):oU t.ns (j,i+1,w)+oU t.ns (t.ns[j].aS[i].toNat,0,w')+1=oU t.ns (j,i,w):=by
 have ae:=pD al j an _ (dr hi);have U:=Xc al (j:=t.ns[j].aS[i].toNat) (by omega) w';have aC:(((t.ns[j].aS[i].toNat:Nat):Int))=t.ns[j].aS[i]:=Aw ae.1;rw[aC]at U;have ah:=fg hi;have bx:oU t.ns (j,i,w)=1+pE (AP t.ns) (t.ns[j].aS.drop i):=by simp[oU,xE an]
 have cU:oU t.ns (j,i+1,w)=1+pE (AP t.ns) (t.ns[j].aS.drop (i+1)):=by simp[oU,xE an]
 rw[bx,cU,ah];simp only[pE,dQ,k'];omega
def PK(an:j<t.ns.length)(hi:t.ns[j].aS.length<=i):vV aX t.ns (j,i,w)=pM aX t.ns (j,i,w)++(rf t.ns[j]++(bif w then [41]else [])):=by simp only[vV,xE an,iG hi];rfl
def PL{d:Nat}{x:dW}(h:F d=x):hr F d x=F:=by
 funext t;unfold hr;cases e:Nat.beq t d with
 |false=>rfl| true=>have:=cj e;subst this;exact h.symm
def ahv{d:Nat}{x:Option (List Value)}(h:C d=x):jX C d x=C:=by
 funext t;unfold jX;cases e:Nat.beq t d with
 |false=>rfl| true=>have:=cj e;subst this;exact h.symm
def Hw:Code->Code
 | .scope c=>c
 | .seq a b=>match Hw a with
  | .skip=>Hw b| c=>c
 |_=>.skip
def PM(c:Code)(l:Nat):Code:=(findLabel c l).getD .skip
def cc.AK{b:Nat}{K:List aF->Prop}(bi post:List aF)(cs:Array Value)(T:Nat)(a2:M=bi++⟨b,.cells cs T (0,0)⟩::post)(ag:i+j+vs.length<=cs.size)(U:iW vs=true)
  (h:K (bi++⟨b,.cells (bQ cs.toList (i+j) vs).toArray T (0,0)⟩::post)):cc M (((⟨b,0,none⟩:Addr).add i).add j) vs K:=by
 rw[Go.V.AK];refine cc.add bi post cs T a2 (by omega) U ?_;rw[dp];exact h
structure gu(I:a5)(aX:List Int):Prop where
 c:si I
 p:PD I
 s:Hs I
 d:tt I aX
def PN(a b c:α)(L:List α):(a::b::(L++[c])).Perm ([b,c]++(a::L)):=
 (List.Perm.swap b a _).trans (((((List.perm_append_singleton c L).cons a)).trans (List.Perm.swap c a L)).cons b)
def PO(bi:List Value)(a b c z:Value)(au:List Value):bQ (bi++([a,b,c]++au)) (bi.length+1) [z]=bi++([a,z,c]++au):=by have:=WX bi a b z (c::au) _ rfl;exact this
def gu.mono{I':a5}(h:gu I aX)(bX:∀ b o,I b=some o->I' b=some o):gu I' aX:=by obtain⟨⟨PP,f1,U⟩,⟨CC,f2,aa⟩,⟨ahw,f3,af⟩,⟨aN,bq,PQ,f4,bp⟩⟩:=h;exact⟨⟨PP,f1,bX _ _ U⟩,⟨CC,f2,bX _ _ aa⟩,⟨ahw,f3,bX _ _ af⟩,⟨aN,bq,PQ,f4,bX _ _ bp⟩⟩
def qt(ao:List Open):List Value:=ao.flatMap oe
def Hx(ao:List Open):(qt ao).length=ao.length*3:=fu oe 3 (λ_=>rfl) ao
def CD(ao:List Open)(e:Open):qt (ao++[e])=qt ao++[.int .i64 e.1,.int .i64 e.2.1,.bool e.2.2]:=by simp[qt,oe]
abbrev Hy:=gR×bf×List Open×a5
def Xd(t:eH)(g:Nat)(x:Hy):Al:={ bK:=[(1,.ref 1 0),(3,.val (ptr g)),(4,.val x.2.1.val)],cl:=[(1,t.cells)],dz:=x.2.2.2,d':=x.2.1.aO 347++x.1.M g }
structure K2(dZ:a5)(aX:List Int)(t:eH)(x:Hy):Prop where
 le:∀ b o,dZ b=some o->x.2.2.2 b=some o
 ok:x.1.ok
 os:x.2.1.ok 3 (qt x.2.2.1)
 ne:x.2.2.1≠[]
 atl:∀ e∈x.2.2.1,e.1<t.ns.length
 atm:x.1.c1++vW aX t.ns x.2.2.1=od aX t.ns t.bR
 atn:xD t.ns x.2.2.1<=2*t.ns.length
def Xe{dZ:a5}(bO:gu dZ aX)(aI:t.ok dZ)(al:right t=true)(az:t.n<=1024){g:Nat}{p:Nat->Nat×Hy->Prop}(x:Hy)(ab:K2 dZ aX t x)(aK:∀ y,K2 dZ aX t y->xD t.ns y.2.2.1<xD t.ns x.2.2.1->p 0 (g,y))(B:Nat)(ay:World)(G:Fr)(CE:dX) :
  V ⟨Tryz.prog,lv,[3],Tryz.f244.ntmps,B,ay,dZ,[],none⟩ (PM (Hw (Tryz.f244.body.getD .skip)) 0) (hr (hr (hr G 4 (.val x.2.1.val)) 3 (.val (ptr g))) 1 (.ref 1 0)) (jX CE 1 (some t.cells)) x.2.2.2 (x.2.1.aO 347++x.1.M g)
   (O7 (λl=>uz [] (λy=>Xd t y.1 y.2) (p l)) (xf ⟨Tryz.prog,lv,[3],Tryz.f244.ntmps,B,ay,dZ,[],none⟩ Tryz.f244.results.toList
    (λr I' M'=>r=.string (strOf (od aX t.ns t.bR))/\(∀ b o,dZ b=some o->I' b=some o)/\M'=[]))):=by
 obtain⟨x,⟨za,n,fy,aY⟩,ao,cW⟩:=x;obtain⟨bz,Hz,cr,bM,jc,oV,Xf⟩:=ab;simp only at bz Hz cr bM jc oV Xf aK |-;have xF:=bO.mono bz;have HA:=aI.mono bz;have n7:=aI.n;obtain⟨iK,⟨j,i,w⟩,rfl⟩:∃ iK e,ao=iK++[e]:=by
  rcases List.eq_nil_or_concat ao with h | ⟨r,e,h⟩;·exact(bM h).elim
  ·exact⟨r,e,by simpa using h⟩
 have j9:iK.length+1=n:=by have U:=cr.len;rw[Hx]at U;simp at U;omega
 have an:j<t.ns.length:=jc (j,i,w) (by simp);have ji:j<t.n:=by omega
 cases za with
 |none=>have:=(cr.nil rfl).1;simp only at this;omega| some c6=>
 obtain⟨ft,oQ,nC,hk⟩:=cr.cap c6 rfl;simp only at ft oQ nC hk;have jQ:(qt iK).length=(n-1)*3:=by rw[Hx];omega
 obtain⟨au,ob⟩:∃ au,aY=qt iK++([.int .i64 j,.int .i64 i,.bool w]++au):=by refine⟨aY.drop (n*3),?_⟩;have aa:=y6 (n*3) aY;rw[hk,CD,gz]at aa;exact aa.symm
 have ahx:aY[(n-1)*3+0]?=some (.int .i64 j):=by rw[ob,<-jQ,qg (by omega)];simp
 have tz:aY[(n-1)*3+1]?=some (.int .i64 i):=by rw[ob,<-jQ,qg (by omega)];simp
 have K3:aY[(n-1)*3+2]?=some (.bool w):=by rw[ob,<-jQ,qg (by omega)];simp
 have EA:=W8 (aX:=aX) al;have m0:x.c1.length<=2412*t.ns.length:=by have:=congrArg List.length oV;rw[di]at this;omega
 have Xg:=W' t.ns (iK++[(j,i,w)]);simp only[di,eM,ko]at Xg;have kr:=HA.ns t.ns[j] (dr an);have ev:=kr.kn;have jJ:=Hq (Ep al an);obtain⟨ad,b3,br⟩:=HA.bj.row bh.dc ji an;rw[CB]at oV;rw[tx]at Xf aK Xg;have vX:IntKind.i64.wrap ((n:Int)-1)=((n-1:Nat):Int):=by rw[wrap_i64 ⟨by omega,by omega⟩];omega
 refine bb.mk (((n-1:Nat)):Int) vX ?_;refine bl.mk ⟨c6,0,none⟩ (n-1) rfl rfl (by show n-1<n;omega) ?_;refine cq.draw aV rfl rfl rfl ?_;refine aw.mk [.int .i64 j] (oa (b:=c6) (cs:=aY) (T:=347) (by simp[bf.aO]) ahx) ?_;refine bl.mk ad j b3 rfl ji ?_;refine aw.mk _ (br _) ?_;refine cy.mk λb6 K4 Xh=>?_;refine cc.mk [] (⟨c6,.cells aY.toArray 347 (0,0)⟩::x.M g) _ _ rfl rfl (bP rfl) rfl ?_;refine aw.mk [.int .i64 i] (oa (b:=c6) (cs:=aY) (T:=347) (by simp[bf.aO]) tz) ?_;refine aM.mk (λU=>?_) (λU=>?_)
 ·refine aw.mk [.bool w] (oa (b:=c6) (cs:=aY) (T:=347) (by simp[bf.aO]) K3) ?_;refine aM.mk (λaa=>?_) (λaa=>?_)
  ·refine a9.mk (x.M g) [⟨b6,.cells t.ns[j].cells.toArray 83 (0,0)⟩,⟨c6,.cells aY.toArray 347 (0,0)⟩] _ (i' (l₁:=[_,_])) (qo g Hz 40 (by omega)) ?_;rintro v eC dU -⟨rfl,rfl,y,aT,ia,rfl⟩;have WQ:y.c1.length<=2412*t.ns.length+1:=by rw[ia];simp;omega
   refine aw.mk _ (dt (T:=83) (b:=b6) (cs:=t.ns[j].cells) (k:=0) (n:=9) (by simp) (bP rfl)) ?_;refine a9.mk [] (y.M g++[⟨b6,.cells t.ns[j].cells.toArray 83 (0,0)⟩,⟨c6,.cells aY.toArray 347 (0,0)⟩]) _ (by simp) (W4 xF.d xF.s kr jJ) ?_;rintro v eC dU -⟨rfl,h5,rfl⟩;have nG:∀ b o,dZ b=some o->eC b=some o:=λb o h=>h5 _ _ (bz _ _ h);have ir:=PF aX jJ;refine a9.mk (y.M g) [⟨b6,.cells t.ns[j].cells.toArray 83 (0,0)⟩,⟨c6,.cells aY.toArray 347 (0,0)⟩] _ (by simp) (vL g aT _ (by show _+(tw aX t.ns[j]).length<=_;omega)) ?_;rintro v la xv -⟨rfl,rfl,u,hu,y',rfl⟩;have tA:u.c1=x.c1++pM aX t.ns (j,i,w):=by rw[y',ia];simp only[pM,U,aa,xE an,a4,aQ];simp[strOf]
   have W2:u.c1.length<=2412*t.ns.length+2401:=by rw[tA,di];simp only[pM,U,aa,xE an,a4,aQ,di,eM,ko];omega
   have oW:=bO.mono nG;have qu:=aI.mono nG;have sq:=qu.ns t.ns[j] (dr an);have AQ:∀ {k m:Nat},k+m<=9->cx la (u.M g++[⟨b6,.cells t.ns[j].cells.toArray 83 (0,0)⟩,⟨c6,.cells aY.toArray 347 (0,0)⟩]) ((⟨b6,0,none⟩:Addr).add k) m ((t.ns[j].cells.drop k).take m):=λh=>dt (T:=83) (by simp) h;refine cq.draw aV rfl rfl rfl ?_;refine aw.mk [.int .i64 i] (oa (b:=c6) (cs:=aY) (T:=347) (by simp[bf.aO]) tz) ?_;refine aw.mk _ (AQ (by decide)) ?_;refine aM.mk (λae=>?_) (λae=>?_)
   ·have fq:i<t.ns[j].kn:=by simpa using ae
    have sr:i<t.ns[j].aS.length:=by omega
    obtain⟨h',iI,gY⟩:=sq.bj.one fq sr;have h7:=pD al j an _ (dr sr);obtain⟨q,nH⟩:=lX h7.1;have gT:q<t.ns.length:=by omega
    have pN:q<t.n:=by omega
    obtain⟨ss,ze,zf⟩:=qu.bj.row bh.dc pN gT;have zg:∀ M,cx la M ((ss.add (q*9)).add 0) 1 [.int .u8 t.ns[q].k]:=λM=>(zf M).part (k:=0) (m:=1) (by decide);have vY:pL t.ns ((q:Nat):Int)=t.ns[q].k:=by simp[pL,dB,gT]
    have jR:=PI (aX:=aX) al an (w:=w) sr;have AR:=PJ al an (w:=w) (w':=im t.ns[j].k t.ns[q].k) sr;rw[nH]at jR AR;simp only[KU,qS]at jR AR;rw[vY]at jR;have gB:IntKind.i64.wrap ((i:Int)+1)=((i+1:Nat):Int):=by have:=sq.bj.cap;rw[wrap_i64 ⟨by omega,by omega⟩];omega
    have bL:bQ aY ((n-1)*3+1) [.int .i64 ((i+1:Nat):Int)]=qt iK++([.int .i64 j,.int .i64 ((i+1:Nat):Int),.bool w]++au):=by rw[ob,<-jQ];exact PO _ _ _ _ _ _
    have HB:bf.ok ⟨some c6,n,fy,bQ aY ((n-1)*3+1) [.int .i64 ((i+1:Nat):Int)]⟩ 3 (qt (iK++[(j,i+1,w)])):=by
     rw[bL,CD];refine⟨by simp only[di,eM,ko];omega,(λh=>by cases h),λbN _=>⟨?_,oQ,nC,?_⟩⟩;·simp only;rw[<-ft,ob];simp
     ·simp only;rw[<-gz];refine sf ?_;simp only[di,eM,ko];omega
    refine aw.mk [.int .i64 i] (oa (b:=c6) (cs:=aY) (T:=347) (by simp[bf.aO]) tz) ?_;refine aM.mk (λbk=>by simp at U bk;omega) (λbk=>?_);refine cq.draw aV rfl rfl rfl ?_;refine aw.mk _ (dt (T:=83) (b:=b6) (cs:=t.ns[j].cells) (k:=8) (n:=1) (by simp) (bP rfl)) ?_;refine aw.mk [.int .i64 i] (oa (b:=c6) (cs:=aY) (T:=347) (by simp[bf.aO]) tz) ?_;refine bl.mk h' i iI rfl fq ?_;refine aw.mk [.int .i64 (q:Nat)] (by have dk:=gY;rw[nH]at dk;exact dk _) ?_;refine aw.mk [.int .i64 i] (oa (b:=c6) (cs:=aY) (T:=347) (by simp[bf.aO]) tz) ?_;refine bb.mk ((i+1:Nat):Int) gB ?_;refine cc.AK (u.M g++[⟨b6,.cells t.ns[j].cells.toArray 83 (0,0)⟩]) [] aY.toArray 347 (by simp[bf.aO]) ?_ rfl ?_;·simp only[vp];show(n-1)*3+1+1<=_;omega
    refine cq.draw aV rfl rfl rfl ?_;refine aw.mk [.int .u8 t.ns[j].k] (dt (T:=83) (b:=b6) (cs:=t.ns[j].cells) (k:=0) (n:=1) (by simp) (bP rfl)) ?_;refine bl.mk ss q ze rfl pN ?_;refine aw.mk [.int .u8 t.ns[q].k] (zg _) ?_;refine hx.mk _ (Pu t.ns[j].k t.ns[q].k) ?_;rintro v HC tq -⟨rfl,rfl,rfl⟩;refine cy.mk λcS g7 zh=>?_;refine bE.append aV rfl (by simp) (e:=347) rfl rfl rfl ⟨some c6,n,fy,bQ aY ((n-1)*3+1) [.int .i64 ((i+1:Nat):Int)]⟩ (xs:=qt (iK++[(j,i+1,w)])) HB rfl (m:=1) rfl (dd:=oe (q,0,im t.ns[j].k t.ns[q].k)) (by decide) (dt (b:=cS) (cs:=oe (q,0,im t.ns[j].k t.ns[q].k)) (k:=0) (n:=3) (T:=347) (.head _) (bP rfl)) rfl (Mr:=⟨cS,.cells (oe (q,0,im t.ns[j].k t.ns[q].k)).toArray 347 (0,0)⟩::(u.M g++[⟨b6,.cells t.ns[j].cells.toArray 83 (0,0)⟩])) (by exact i' (l₁:=(⟨cS,.cells (oe (q,0,im t.ns[j].k t.ns[q].k)).toArray 347 (0,0)⟩:aF)::(u.M g++[⟨b6,.cells t.ns[j].cells.toArray 83 (0,0)⟩])) (l₂:=[⟨c6,.cells (bQ aY ((n-1)*3+1) [.int .i64 ((i+1:Nat):Int)]).toArray 347 (0,0)⟩])) (by show n+1<=_;simp only[maxLen];omega) (by show(n+1)*24<=_;omega) ?_;intro eD c' kQ ed dP gS iq;refine⟨(g,u,⟨some eD,n+1,c',kQ⟩,iK++[(j,i+1,w)]++[(q,0,im t.ns[j].k t.ns[q].k)],_),aK _ ⟨nG,hu,⟨?_,(λh=>by cases h),λbN _=>⟨ed,dP,gS,?_⟩⟩,by simp,?_,?_,?_⟩ ?_,.perm (M1:=[⟨cS,.cells (oe (q,0,im t.ns[j].k t.ns[q].k)).toArray 347 (0,0)⟩,⟨b6,.cells t.ns[j].cells.toArray 83 (0,0)⟩]++(⟨eD,.cells kQ.toArray 347 (0,0)⟩::u.M g)) (PN _ _ _ _) (.sub (mU _ _) .refl),gX,.cons rfl .nil⟩;·show _=(n+1)*3;rw[Hx];simp;omega
    ·show kQ.take ((n+1)*3)=_;rw[CD (iK++[(j,i+1,w)])];exact iq
    ·intro e he;simp only[dV,jw]at he;rcases he with(he | rfl) | rfl
     ·exact jc e (by simp[he])
     ·exact an
     ·exact gT
    ·simp only;rw[CB,CB,tA,<-oV,jR];rw[show decide (0<(i:Int))=false from bk];simp
    ·simp only;rw[tx,tx];omega
    ·simp only;rw[tx,tx];omega
   ·have fq:t.ns[j].aS.length<=i:=by simp at ae;omega
    have jR:=PK (aX:=aX) an (w:=w) fq;have q5:=K1 t.ns[j];refine aw.mk _ (dt (T:=83) (b:=b6) (cs:=t.ns[j].cells) (k:=0) (n:=9) (by simp) (bP rfl)) ?_;refine a9.mk [] (u.M g++[⟨b6,.cells t.ns[j].cells.toArray 83 (0,0)⟩,⟨c6,.cells aY.toArray 347 (0,0)⟩]) _ (.refl _) (PE oW.c oW.p oW.s sq jJ) ?_;rintro v HC tq -⟨rfl,rfl,rfl⟩;refine a9.mk (u.M g) [⟨b6,.cells t.ns[j].cells.toArray 83 (0,0)⟩,⟨c6,.cells aY.toArray 347 (0,0)⟩] _ (by simp) (vL g hu _ (by show _+(rf t.ns[j]).length<=_;omega)) ?_;rintro v K5 PR -⟨rfl,rfl,a,aH,jo,rfl⟩;have uQ:a.c1.length<=2412*t.ns.length+2410:=by rw[jo,di];show _+(rf t.ns[j]).length<=_;omega
    refine aw.mk [.bool w] (oa (b:=c6) (cs:=aY) (T:=347) (by simp[bf.aO]) K3) ?_;refine aM.mk (λhw=>?_) (λhw=>?_)
    ·subst hw;refine a9.mk (a.M g) [⟨b6,.cells t.ns[j].cells.toArray 83 (0,0)⟩,⟨c6,.cells aY.toArray 347 (0,0)⟩] _ (by simp) (qo g aH 41 (by omega)) ?_;rintro v K6 PS -⟨rfl,rfl,c,aJ,km,rfl⟩;refine bb.mk (((n-1:Nat)):Int) vX ?_;refine jI.mk 0 (n-1) rfl rfl (bF _) (by show n-1<=fy;omega) ?_;refine aM.mk (λbk=>?_) (λbk=>?_)
     ·have ij:0<n-1:=by simp at bk;omega
      refine⟨(g,c,⟨some c6,n-1,fy,aY⟩,iK,_),aK _ ⟨nG,aJ,⟨?_,(λh=>by cases h),λbN _=>⟨ft,by show n-1<=fy;omega,nC,?_⟩⟩,?_,λe he=>jc e (by simp[he]),?_,?_⟩ ?_,.perm (M1:=[⟨b6,.cells t.ns[j].cells.toArray 83 (0,0)⟩]++(⟨c6,.cells aY.toArray 347 (0,0)⟩::c.M g)) (i' (l₂:=[_,_])) (.sub (mU _ _) .refl),gX,.cons rfl .nil⟩;·exact jQ
      ·show aY.take ((n-1)*3)=_;rw[ob,<-jQ];exact sf rfl
      ·intro h;simp only at h;rw[h]at j9;simp at j9;omega
      ·simp only;rw[km,jo,tA,<-oV,jR];simp[strOf]
      ·simp only;omega
      ·simp only[oU];omega
     ·have ij:n-1=0:=by simp at bk;omega
      have vZ:iK=[]:=nx (by omega);have iL:c.c1=od aX t.ns t.bR:=by rw[km,jo,tA,<-oV,jR,vZ];simp[vW,strOf]
      refine a9.mk (c.M g) [⟨b6,.cells t.ns[j].cells.toArray 83 (0,0)⟩,⟨c6,.cells aY.toArray 347 (0,0)⟩] _ (by simp) (y9 g aJ (by rw[iL];omega)) ?_;rintro v CF EB -⟨rfl,rfl,rfl⟩;refine⟨_,_,.sub (eN _) .refl,?_,nG,rfl⟩;rw[iL];rfl
    ·subst hw;refine bb.mk (((n-1:Nat)):Int) vX ?_;refine jI.mk 0 (n-1) rfl rfl (bF _) (by show n-1<=fy;omega) ?_;refine aM.mk (λbk=>?_) (λbk=>?_)
     ·have ij:0<n-1:=by simp at bk;omega
      refine⟨(g,a,⟨some c6,n-1,fy,aY⟩,iK,_),aK _ ⟨nG,aH,⟨?_,(λh=>by cases h),λbN _=>⟨ft,by show n-1<=fy;omega,nC,?_⟩⟩,?_,λe he=>jc e (by simp[he]),?_,?_⟩ ?_,.perm (M1:=[⟨b6,.cells t.ns[j].cells.toArray 83 (0,0)⟩]++(⟨c6,.cells aY.toArray 347 (0,0)⟩::a.M g)) (i' (l₂:=[_,_])) (.sub (mU _ _) .refl),gX,.cons rfl .nil⟩;·exact jQ
      ·show aY.take ((n-1)*3)=_;rw[ob,<-jQ];exact sf rfl
      ·intro h;simp only at h;rw[h]at j9;simp at j9;omega
      ·simp only;rw[jo,tA,<-oV,jR];simp[strOf]
      ·simp only;omega
      ·simp only[oU];omega
     ·have ij:n-1=0:=by simp at bk;omega
      have vZ:iK=[]:=nx (by omega);have iL:a.c1=od aX t.ns t.bR:=by rw[jo,tA,<-oV,jR,vZ];simp[vW,strOf]
      refine a9.mk (a.M g) [⟨b6,.cells t.ns[j].cells.toArray 83 (0,0)⟩,⟨c6,.cells aY.toArray 347 (0,0)⟩] _ (by simp) (y9 g aH (by rw[iL];omega)) ?_;rintro v CF EB -⟨rfl,rfl,rfl⟩;refine⟨_,_,.sub (eN _) .refl,?_,nG,rfl⟩;rw[iL];rfl
  ·refine aw.mk _ (dt (T:=83) (b:=b6) (cs:=t.ns[j].cells) (k:=0) (n:=9) (.head _) (bP rfl)) ?_;refine a9.mk [] (⟨b6,.cells t.ns[j].cells.toArray 83 (0,0)⟩::⟨c6,.cells aY.toArray 347 (0,0)⟩::x.M g) _ (.refl _) (W4 xF.d xF.s kr jJ) ?_;rintro v eC dU -⟨rfl,h5,rfl⟩;have nG:∀ b o,dZ b=some o->eC b=some o:=λb o h=>h5 _ _ (bz _ _ h);have ir:=PF aX jJ;refine a9.mk (x.M g) [⟨b6,.cells t.ns[j].cells.toArray 83 (0,0)⟩,⟨c6,.cells aY.toArray 347 (0,0)⟩] _ (i' (l₁:=[_,_])) (vL g Hz _ (by show _+(tw aX t.ns[j]).length<=_;omega)) ?_;rintro v la xv -⟨rfl,rfl,u,hu,y',rfl⟩;have tA:u.c1=x.c1++pM aX t.ns (j,i,w):=by rw[y'];simp only[pM,U,aa,xE an,a4,aQ];simp[strOf]
   have W2:u.c1.length<=2412*t.ns.length+2401:=by rw[tA,di];simp only[pM,U,aa,xE an,a4,aQ,di,eM,ko];omega
   have oW:=bO.mono nG;have qu:=aI.mono nG;have sq:=qu.ns t.ns[j] (dr an);have AQ:∀ {k m:Nat},k+m<=9->cx la (u.M g++[⟨b6,.cells t.ns[j].cells.toArray 83 (0,0)⟩,⟨c6,.cells aY.toArray 347 (0,0)⟩]) ((⟨b6,0,none⟩:Addr).add k) m ((t.ns[j].cells.drop k).take m):=λh=>dt (T:=83) (by simp) h;refine cq.draw aV rfl rfl rfl ?_;refine aw.mk [.int .i64 i] (oa (b:=c6) (cs:=aY) (T:=347) (by simp[bf.aO]) tz) ?_;refine aw.mk _ (AQ (by decide)) ?_;refine aM.mk (λae=>?_) (λae=>?_)
   ·have fq:i<t.ns[j].kn:=by simpa using ae
    have sr:i<t.ns[j].aS.length:=by omega
    obtain⟨h',iI,gY⟩:=sq.bj.one fq sr;have h7:=pD al j an _ (dr sr);obtain⟨q,nH⟩:=lX h7.1;have gT:q<t.ns.length:=by omega
    have pN:q<t.n:=by omega
    obtain⟨ss,ze,zf⟩:=qu.bj.row bh.dc pN gT;have zg:∀ M,cx la M ((ss.add (q*9)).add 0) 1 [.int .u8 t.ns[q].k]:=λM=>(zf M).part (k:=0) (m:=1) (by decide);have vY:pL t.ns ((q:Nat):Int)=t.ns[q].k:=by simp[pL,dB,gT]
    have jR:=PI (aX:=aX) al an (w:=w) sr;have AR:=PJ al an (w:=w) (w':=im t.ns[j].k t.ns[q].k) sr;rw[nH]at jR AR;simp only[KU,qS]at jR AR;rw[vY]at jR;have gB:IntKind.i64.wrap ((i:Int)+1)=((i+1:Nat):Int):=by have:=sq.bj.cap;rw[wrap_i64 ⟨by omega,by omega⟩];omega
    have bL:bQ aY ((n-1)*3+1) [.int .i64 ((i+1:Nat):Int)]=qt iK++([.int .i64 j,.int .i64 ((i+1:Nat):Int),.bool w]++au):=by rw[ob,<-jQ];exact PO _ _ _ _ _ _
    have HB:bf.ok ⟨some c6,n,fy,bQ aY ((n-1)*3+1) [.int .i64 ((i+1:Nat):Int)]⟩ 3 (qt (iK++[(j,i+1,w)])):=by
     rw[bL,CD];refine⟨by simp only[di,eM,ko];omega,(λh=>by cases h),λbN _=>⟨?_,oQ,nC,?_⟩⟩;·simp only;rw[<-ft,ob];simp
     ·simp only;rw[<-gz];refine sf ?_;simp only[di,eM,ko];omega
    refine aw.mk [.int .i64 i] (oa (b:=c6) (cs:=aY) (T:=347) (by simp[bf.aO]) tz) ?_;refine aM.mk (λbk=>by simp at U bk;omega) (λbk=>?_);refine cq.draw aV rfl rfl rfl ?_;refine aw.mk _ (dt (T:=83) (b:=b6) (cs:=t.ns[j].cells) (k:=8) (n:=1) (by simp) (bP rfl)) ?_;refine aw.mk [.int .i64 i] (oa (b:=c6) (cs:=aY) (T:=347) (by simp[bf.aO]) tz) ?_;refine bl.mk h' i iI rfl fq ?_;refine aw.mk [.int .i64 (q:Nat)] (by have dk:=gY;rw[nH]at dk;exact dk _) ?_;refine aw.mk [.int .i64 i] (oa (b:=c6) (cs:=aY) (T:=347) (by simp[bf.aO]) tz) ?_;refine bb.mk ((i+1:Nat):Int) gB ?_;refine cc.AK (u.M g++[⟨b6,.cells t.ns[j].cells.toArray 83 (0,0)⟩]) [] aY.toArray 347 (by simp[bf.aO]) ?_ rfl ?_;·simp only[vp];show(n-1)*3+1+1<=_;omega
    refine cq.draw aV rfl rfl rfl ?_;refine aw.mk [.int .u8 t.ns[j].k] (dt (T:=83) (b:=b6) (cs:=t.ns[j].cells) (k:=0) (n:=1) (by simp) (bP rfl)) ?_;refine bl.mk ss q ze rfl pN ?_;refine aw.mk [.int .u8 t.ns[q].k] (zg _) ?_;refine hx.mk _ (Pu t.ns[j].k t.ns[q].k) ?_;rintro v HC tq -⟨rfl,rfl,rfl⟩;refine cy.mk λcS g7 zh=>?_;refine bE.append aV rfl (by simp) (e:=347) rfl rfl rfl ⟨some c6,n,fy,bQ aY ((n-1)*3+1) [.int .i64 ((i+1:Nat):Int)]⟩ (xs:=qt (iK++[(j,i+1,w)])) HB rfl (m:=1) rfl (dd:=oe (q,0,im t.ns[j].k t.ns[q].k)) (by decide) (dt (b:=cS) (cs:=oe (q,0,im t.ns[j].k t.ns[q].k)) (k:=0) (n:=3) (T:=347) (.head _) (bP rfl)) rfl (Mr:=⟨cS,.cells (oe (q,0,im t.ns[j].k t.ns[q].k)).toArray 347 (0,0)⟩::(u.M g++[⟨b6,.cells t.ns[j].cells.toArray 83 (0,0)⟩])) (by exact i' (l₁:=(⟨cS,.cells (oe (q,0,im t.ns[j].k t.ns[q].k)).toArray 347 (0,0)⟩:aF)::(u.M g++[⟨b6,.cells t.ns[j].cells.toArray 83 (0,0)⟩])) (l₂:=[⟨c6,.cells (bQ aY ((n-1)*3+1) [.int .i64 ((i+1:Nat):Int)]).toArray 347 (0,0)⟩])) (by show n+1<=_;simp only[maxLen];omega) (by show(n+1)*24<=_;omega) ?_;intro eD c' kQ ed dP gS iq;refine⟨(g,u,⟨some eD,n+1,c',kQ⟩,iK++[(j,i+1,w)]++[(q,0,im t.ns[j].k t.ns[q].k)],_),aK _ ⟨nG,hu,⟨?_,(λh=>by cases h),λbN _=>⟨ed,dP,gS,?_⟩⟩,by simp,?_,?_,?_⟩ ?_,.perm (M1:=[⟨cS,.cells (oe (q,0,im t.ns[j].k t.ns[q].k)).toArray 347 (0,0)⟩,⟨b6,.cells t.ns[j].cells.toArray 83 (0,0)⟩]++(⟨eD,.cells kQ.toArray 347 (0,0)⟩::u.M g)) (PN _ _ _ _) (.sub (mU _ _) .refl),gX,.cons rfl .nil⟩;·show _=(n+1)*3;rw[Hx];simp;omega
    ·show kQ.take ((n+1)*3)=_;rw[CD (iK++[(j,i+1,w)])];exact iq
    ·intro e he;simp only[dV,jw]at he;rcases he with(he | rfl) | rfl
     ·exact jc e (by simp[he])
     ·exact an
     ·exact gT
    ·simp only;rw[CB,CB,tA,<-oV,jR];rw[show decide (0<(i:Int))=false from bk];simp
    ·simp only;rw[tx,tx];omega
    ·simp only;rw[tx,tx];omega
   ·have fq:t.ns[j].aS.length<=i:=by simp at ae;omega
    have jR:=PK (aX:=aX) an (w:=w) fq;have q5:=K1 t.ns[j];refine aw.mk _ (dt (T:=83) (b:=b6) (cs:=t.ns[j].cells) (k:=0) (n:=9) (by simp) (bP rfl)) ?_;refine a9.mk [] (u.M g++[⟨b6,.cells t.ns[j].cells.toArray 83 (0,0)⟩,⟨c6,.cells aY.toArray 347 (0,0)⟩]) _ (.refl _) (PE oW.c oW.p oW.s sq jJ) ?_;rintro v HC tq -⟨rfl,rfl,rfl⟩;refine a9.mk (u.M g) [⟨b6,.cells t.ns[j].cells.toArray 83 (0,0)⟩,⟨c6,.cells aY.toArray 347 (0,0)⟩] _ (by simp) (vL g hu _ (by show _+(rf t.ns[j]).length<=_;omega)) ?_;rintro v K5 PR -⟨rfl,rfl,a,aH,jo,rfl⟩;have uQ:a.c1.length<=2412*t.ns.length+2410:=by rw[jo,di];show _+(rf t.ns[j]).length<=_;omega
    refine aw.mk [.bool w] (oa (b:=c6) (cs:=aY) (T:=347) (by simp[bf.aO]) K3) ?_;refine aM.mk (λhw=>?_) (λhw=>?_)
    ·subst hw;refine a9.mk (a.M g) [⟨b6,.cells t.ns[j].cells.toArray 83 (0,0)⟩,⟨c6,.cells aY.toArray 347 (0,0)⟩] _ (by simp) (qo g aH 41 (by omega)) ?_;rintro v K6 PS -⟨rfl,rfl,c,aJ,km,rfl⟩;refine bb.mk (((n-1:Nat)):Int) vX ?_;refine jI.mk 0 (n-1) rfl rfl (bF _) (by show n-1<=fy;omega) ?_;refine aM.mk (λbk=>?_) (λbk=>?_)
     ·have ij:0<n-1:=by simp at bk;omega
      refine⟨(g,c,⟨some c6,n-1,fy,aY⟩,iK,_),aK _ ⟨nG,aJ,⟨?_,(λh=>by cases h),λbN _=>⟨ft,by show n-1<=fy;omega,nC,?_⟩⟩,?_,λe he=>jc e (by simp[he]),?_,?_⟩ ?_,.perm (M1:=[⟨b6,.cells t.ns[j].cells.toArray 83 (0,0)⟩]++(⟨c6,.cells aY.toArray 347 (0,0)⟩::c.M g)) (i' (l₂:=[_,_])) (.sub (mU _ _) .refl),gX,.cons rfl .nil⟩;·exact jQ
      ·show aY.take ((n-1)*3)=_;rw[ob,<-jQ];exact sf rfl
      ·intro h;simp only at h;rw[h]at j9;simp at j9;omega
      ·simp only;rw[km,jo,tA,<-oV,jR];simp[strOf]
      ·simp only;omega
      ·simp only[oU];omega
     ·have ij:n-1=0:=by simp at bk;omega
      have vZ:iK=[]:=nx (by omega);have iL:c.c1=od aX t.ns t.bR:=by rw[km,jo,tA,<-oV,jR,vZ];simp[vW,strOf]
      refine a9.mk (c.M g) [⟨b6,.cells t.ns[j].cells.toArray 83 (0,0)⟩,⟨c6,.cells aY.toArray 347 (0,0)⟩] _ (by simp) (y9 g aJ (by rw[iL];omega)) ?_;rintro v CF EB -⟨rfl,rfl,rfl⟩;refine⟨_,_,.sub (eN _) .refl,?_,nG,rfl⟩;rw[iL];rfl
    ·subst hw;refine bb.mk (((n-1:Nat)):Int) vX ?_;refine jI.mk 0 (n-1) rfl rfl (bF _) (by show n-1<=fy;omega) ?_;refine aM.mk (λbk=>?_) (λbk=>?_)
     ·have ij:0<n-1:=by simp at bk;omega
      refine⟨(g,a,⟨some c6,n-1,fy,aY⟩,iK,_),aK _ ⟨nG,aH,⟨?_,(λh=>by cases h),λbN _=>⟨ft,by show n-1<=fy;omega,nC,?_⟩⟩,?_,λe he=>jc e (by simp[he]),?_,?_⟩ ?_,.perm (M1:=[⟨b6,.cells t.ns[j].cells.toArray 83 (0,0)⟩]++(⟨c6,.cells aY.toArray 347 (0,0)⟩::a.M g)) (i' (l₂:=[_,_])) (.sub (mU _ _) .refl),gX,.cons rfl .nil⟩;·exact jQ
      ·show aY.take ((n-1)*3)=_;rw[ob,<-jQ];exact sf rfl
      ·intro h;simp only at h;rw[h]at j9;simp at j9;omega
      ·simp only;rw[jo,tA,<-oV,jR];simp[strOf]
      ·simp only;omega
      ·simp only[oU];omega
     ·have ij:n-1=0:=by simp at bk;omega
      have vZ:iK=[]:=nx (by omega);have iL:a.c1=od aX t.ns t.bR:=by rw[jo,tA,<-oV,jR,vZ];simp[vW,strOf]
      refine a9.mk (a.M g) [⟨b6,.cells t.ns[j].cells.toArray 83 (0,0)⟩,⟨c6,.cells aY.toArray 347 (0,0)⟩] _ (by simp) (y9 g aH (by rw[iL];omega)) ?_;rintro v CF EB -⟨rfl,rfl,rfl⟩;refine⟨_,_,.sub (eN _) .refl,?_,nG,rfl⟩;rw[iL];rfl
 ·have ato:x.c1=x.c1++pM aX t.ns (j,i,w):=by simp only[pM,U,aQ,eo]
  have oW:=bO.mono bz;have qu:=aI.mono bz;have sq:=qu.ns t.ns[j] (dr an);have AQ:∀ {k m:Nat},k+m<=9->cx cW (⟨b6,.cells t.ns[j].cells.toArray 83 (0,0)⟩::⟨c6,.cells aY.toArray 347 (0,0)⟩::x.M g) ((⟨b6,0,none⟩:Addr).add k) m ((t.ns[j].cells.drop k).take m):=λh=>dt (T:=83) (by simp) h;refine cq.draw aV rfl rfl rfl ?_;refine aw.mk [.int .i64 i] (oa (b:=c6) (cs:=aY) (T:=347) (by simp[bf.aO]) tz) ?_;refine aw.mk _ (AQ (by decide)) ?_;refine aM.mk (λae=>?_) (λae=>?_)
  ·have fq:i<t.ns[j].kn:=by simpa using ae
   have sr:i<t.ns[j].aS.length:=by omega
   obtain⟨h',iI,gY⟩:=sq.bj.one fq sr;have h7:=pD al j an _ (dr sr);obtain⟨q,nH⟩:=lX h7.1;have gT:q<t.ns.length:=by omega
   have pN:q<t.n:=by omega
   obtain⟨ss,ze,zf⟩:=qu.bj.row bh.dc pN gT;have zg:∀ M,cx cW M ((ss.add (q*9)).add 0) 1 [.int .u8 t.ns[q].k]:=λM=>(zf M).part (k:=0) (m:=1) (by decide);have vY:pL t.ns ((q:Nat):Int)=t.ns[q].k:=by simp[pL,dB,gT]
   have jR:=PI (aX:=aX) al an (w:=w) sr;have AR:=PJ al an (w:=w) (w':=im t.ns[j].k t.ns[q].k) sr;rw[nH]at jR AR;simp only[KU,qS]at jR AR;rw[vY]at jR;have gB:IntKind.i64.wrap ((i:Int)+1)=((i+1:Nat):Int):=by have:=sq.bj.cap;rw[wrap_i64 ⟨by omega,by omega⟩];omega
   have bL:bQ aY ((n-1)*3+1) [.int .i64 ((i+1:Nat):Int)]=qt iK++([.int .i64 j,.int .i64 ((i+1:Nat):Int),.bool w]++au):=by rw[ob,<-jQ];exact PO _ _ _ _ _ _
   have HB:bf.ok ⟨some c6,n,fy,bQ aY ((n-1)*3+1) [.int .i64 ((i+1:Nat):Int)]⟩ 3 (qt (iK++[(j,i+1,w)])):=by
    rw[bL,CD];refine⟨by simp only[di,eM,ko];omega,(λh=>by cases h),λbN _=>⟨?_,oQ,nC,?_⟩⟩;·simp only;rw[<-ft,ob];simp
    ·simp only;rw[<-gz];refine sf ?_;simp only[di,eM,ko];omega
   refine aw.mk [.int .i64 i] (oa (b:=c6) (cs:=aY) (T:=347) (by simp[bf.aO]) tz) ?_;refine aM.mk (λbk=>?_) (λbk=>by simp at U bk;omega);refine aw.mk [.int .u8 t.ns[j].k] (dt (T:=83) (b:=b6) (cs:=t.ns[j].cells) (k:=0) (n:=1) (.head _) (bP rfl)) ?_;refine dR.mk t.ns[j].k.toNat (by have:=sq.k;omega) (by have:=jJ.k;have:=sq.k;omega) ?_;refine aw.mk _ (oW.s.rd _ (by have:=jJ.k;have:=sq.k;show t.ns[j].k.toNat*3+1<30;omega)) ?_;refine a9.mk (x.M g) [⟨b6,.cells t.ns[j].cells.toArray 83 (0,0)⟩,⟨c6,.cells aY.toArray 347 (0,0)⟩] _ (i' (l₁:=[_,_])) (vL g Hz _ (by have:=Ht (t.ns[j].k.toNat*3+1);show _+(tv (t.ns[j].k.toNat*3+1)).length<=_;omega)) ?_;rintro v ql tp -⟨rfl,rfl,z,ahy,ahz,rfl⟩;have uJ:z.c1=x.c1++Hu t.ns[j]:=ahz;refine cq.draw aV rfl rfl rfl ?_;refine aw.mk _ (dt (T:=83) (b:=b6) (cs:=t.ns[j].cells) (k:=8) (n:=1) (by simp) (bP rfl)) ?_;refine aw.mk [.int .i64 i] (oa (b:=c6) (cs:=aY) (T:=347) (by simp[bf.aO]) tz) ?_;refine bl.mk h' i iI rfl fq ?_;refine aw.mk [.int .i64 (q:Nat)] (by have dk:=gY;rw[nH]at dk;exact dk _) ?_;refine aw.mk [.int .i64 i] (oa (b:=c6) (cs:=aY) (T:=347) (by simp[bf.aO]) tz) ?_;refine bb.mk ((i+1:Nat):Int) gB ?_;refine cc.AK (z.M g++[⟨b6,.cells t.ns[j].cells.toArray 83 (0,0)⟩]) [] aY.toArray 347 (by simp[bf.aO]) ?_ rfl ?_;·simp only[vp];show(n-1)*3+1+1<=_;omega
   refine cq.draw aV rfl rfl rfl ?_;refine aw.mk [.int .u8 t.ns[j].k] (dt (T:=83) (b:=b6) (cs:=t.ns[j].cells) (k:=0) (n:=1) (by simp) (bP rfl)) ?_;refine bl.mk ss q ze rfl pN ?_;refine aw.mk [.int .u8 t.ns[q].k] (zg _) ?_;refine hx.mk _ (Pu t.ns[j].k t.ns[q].k) ?_;rintro v HC tq -⟨rfl,rfl,rfl⟩;refine cy.mk λcS g7 zh=>?_;refine bE.append aV rfl (by simp) (e:=347) rfl rfl rfl ⟨some c6,n,fy,bQ aY ((n-1)*3+1) [.int .i64 ((i+1:Nat):Int)]⟩ (xs:=qt (iK++[(j,i+1,w)])) HB rfl (m:=1) rfl (dd:=oe (q,0,im t.ns[j].k t.ns[q].k)) (by decide) (dt (b:=cS) (cs:=oe (q,0,im t.ns[j].k t.ns[q].k)) (k:=0) (n:=3) (T:=347) (.head _) (bP rfl)) rfl (Mr:=⟨cS,.cells (oe (q,0,im t.ns[j].k t.ns[q].k)).toArray 347 (0,0)⟩::(z.M g++[⟨b6,.cells t.ns[j].cells.toArray 83 (0,0)⟩])) (by exact i' (l₁:=(⟨cS,.cells (oe (q,0,im t.ns[j].k t.ns[q].k)).toArray 347 (0,0)⟩:aF)::(z.M g++[⟨b6,.cells t.ns[j].cells.toArray 83 (0,0)⟩])) (l₂:=[⟨c6,.cells (bQ aY ((n-1)*3+1) [.int .i64 ((i+1:Nat):Int)]).toArray 347 (0,0)⟩])) (by show n+1<=_;simp only[maxLen];omega) (by show(n+1)*24<=_;omega) ?_;intro eD c' kQ ed dP gS iq;refine⟨(g,z,⟨some eD,n+1,c',kQ⟩,iK++[(j,i+1,w)]++[(q,0,im t.ns[j].k t.ns[q].k)],_),aK _ ⟨bz,ahy,⟨?_,(λh=>by cases h),λbN _=>⟨ed,dP,gS,?_⟩⟩,by simp,?_,?_,?_⟩ ?_,.perm (M1:=[⟨cS,.cells (oe (q,0,im t.ns[j].k t.ns[q].k)).toArray 347 (0,0)⟩,⟨b6,.cells t.ns[j].cells.toArray 83 (0,0)⟩]++(⟨eD,.cells kQ.toArray 347 (0,0)⟩::z.M g)) (PN _ _ _ _) (.sub (mU _ _) .refl),gX,.cons rfl .nil⟩;·show _=(n+1)*3;rw[Hx];simp;omega
   ·show kQ.take ((n+1)*3)=_;rw[CD (iK++[(j,i+1,w)])];exact iq
   ·intro e he;simp only[dV,jw]at he;rcases he with(he | rfl) | rfl
    ·exact jc e (by simp[he])
    ·exact an
    ·exact gT
   ·simp only;rw[CB,CB,uJ,<-oV,jR];rw[show decide (0<(i:Int))=true from bk,show pM aX t.ns (j,i,w)=[]from by simp only[pM,U,aQ]];simp
   ·simp only;rw[tx,tx];omega
   ·simp only;rw[tx,tx];omega
  ·have fq:t.ns[j].aS.length<=i:=by simp at ae;omega
   have ahA:=PK (aX:=aX) an (w:=w) fq;have jR:vV aX t.ns (j,i,w)=rf t.ns[j]++(bif w then [41]else []):=by rw[ahA];simp only[pM,U,aQ,nz]
   have q5:=K1 t.ns[j];refine aw.mk _ (dt (T:=83) (b:=b6) (cs:=t.ns[j].cells) (k:=0) (n:=9) (.head _) (bP rfl)) ?_;refine a9.mk [] (⟨b6,.cells t.ns[j].cells.toArray 83 (0,0)⟩::⟨c6,.cells aY.toArray 347 (0,0)⟩::x.M g) _ (.refl _) (PE oW.c oW.p oW.s sq jJ) ?_;rintro v HC tq -⟨rfl,rfl,rfl⟩;refine a9.mk (x.M g) [⟨b6,.cells t.ns[j].cells.toArray 83 (0,0)⟩,⟨c6,.cells aY.toArray 347 (0,0)⟩] _ (i' (l₁:=[_,_])) (vL g Hz _ (by show _+(rf t.ns[j]).length<=_;omega)) ?_;rintro v K5 PR -⟨rfl,rfl,a,aH,jo,rfl⟩;have uQ:a.c1.length<=2412*t.ns.length+2410:=by rw[jo,di];show _+(rf t.ns[j]).length<=_;omega
   refine aw.mk [.bool w] (oa (b:=c6) (cs:=aY) (T:=347) (by simp[bf.aO]) K3) ?_;refine aM.mk (λhw=>?_) (λhw=>?_)
   ·subst hw;refine a9.mk (a.M g) [⟨b6,.cells t.ns[j].cells.toArray 83 (0,0)⟩,⟨c6,.cells aY.toArray 347 (0,0)⟩] _ (by simp) (qo g aH 41 (by omega)) ?_;rintro v K6 PS -⟨rfl,rfl,c,aJ,km,rfl⟩;refine bb.mk (((n-1:Nat)):Int) vX ?_;refine jI.mk 0 (n-1) rfl rfl (bF _) (by show n-1<=fy;omega) ?_;refine aM.mk (λbk=>?_) (λbk=>?_)
    ·have ij:0<n-1:=by simp at bk;omega
     refine⟨(g,c,⟨some c6,n-1,fy,aY⟩,iK,_),aK _ ⟨bz,aJ,⟨?_,(λh=>by cases h),λbN _=>⟨ft,by show n-1<=fy;omega,nC,?_⟩⟩,?_,λe he=>jc e (by simp[he]),?_,?_⟩ ?_,.perm (M1:=[⟨b6,.cells t.ns[j].cells.toArray 83 (0,0)⟩]++(⟨c6,.cells aY.toArray 347 (0,0)⟩::c.M g)) (i' (l₂:=[_,_])) (.sub (mU _ _) .refl),gX,.cons rfl .nil⟩;·exact jQ
     ·show aY.take ((n-1)*3)=_;rw[ob,<-jQ];exact sf rfl
     ·intro h;simp only at h;rw[h]at j9;simp at j9;omega
     ·simp only;rw[km,jo,<-oV,jR];simp[strOf]
     ·simp only;omega
     ·simp only[oU];omega
    ·have ij:n-1=0:=by simp at bk;omega
     have vZ:iK=[]:=nx (by omega);have iL:c.c1=od aX t.ns t.bR:=by rw[km,jo,<-oV,jR,vZ];simp[vW,strOf]
     refine a9.mk (c.M g) [⟨b6,.cells t.ns[j].cells.toArray 83 (0,0)⟩,⟨c6,.cells aY.toArray 347 (0,0)⟩] _ (by simp) (y9 g aJ (by rw[iL];omega)) ?_;rintro v CF EB -⟨rfl,rfl,rfl⟩;refine⟨_,_,.sub (eN _) .refl,?_,bz,rfl⟩;rw[iL];rfl
   ·subst hw;refine bb.mk (((n-1:Nat)):Int) vX ?_;refine jI.mk 0 (n-1) rfl rfl (bF _) (by show n-1<=fy;omega) ?_;refine aM.mk (λbk=>?_) (λbk=>?_)
    ·have ij:0<n-1:=by simp at bk;omega
     refine⟨(g,a,⟨some c6,n-1,fy,aY⟩,iK,_),aK _ ⟨bz,aH,⟨?_,(λh=>by cases h),λbN _=>⟨ft,by show n-1<=fy;omega,nC,?_⟩⟩,?_,λe he=>jc e (by simp[he]),?_,?_⟩ ?_,.perm (M1:=[⟨b6,.cells t.ns[j].cells.toArray 83 (0,0)⟩]++(⟨c6,.cells aY.toArray 347 (0,0)⟩::a.M g)) (i' (l₂:=[_,_])) (.sub (mU _ _) .refl),gX,.cons rfl .nil⟩;·exact jQ
     ·show aY.take ((n-1)*3)=_;rw[ob,<-jQ];exact sf rfl
     ·intro h;simp only at h;rw[h]at j9;simp at j9;omega
     ·simp only;rw[jo,<-oV,jR];simp[strOf]
     ·simp only;omega
     ·simp only[oU];omega
    ·have ij:n-1=0:=by simp at bk;omega
     have vZ:iK=[]:=nx (by omega);have iL:a.c1=od aX t.ns t.bR:=by rw[jo,<-oV,jR,vZ];simp[vW,strOf]
     refine a9.mk (a.M g) [⟨b6,.cells t.ns[j].cells.toArray 83 (0,0)⟩,⟨c6,.cells aY.toArray 347 (0,0)⟩] _ (by simp) (y9 g aH (by rw[iL];omega)) ?_;rintro v CF EB -⟨rfl,rfl,rfl⟩;refine⟨_,_,.sub (eN _) .refl,?_,bz,rfl⟩;rw[iL];rfl
def Xi{X:dw}{c:Code}{K:mi}{t1 t2 t3:Nat}{a b d:dW}{e:Option (List Value)}(h:∀ G CE,V X c (hr (hr (hr G t3 d) t2 b) t1 a) (jX CE t1 e) I M K)
  (U:F t1=a) (aa:F t2=b) (af:F t3=d) (aN:C t1=e):V X c F C I M K:=by
 have:=h F C;rwa [PL af,PL aa,PL U,ahv aN]at this
def ahB(bO:gu I aX)(aI:t.ok I)(az:t.n<=1024):Spec Tryz.prog 244 [t.val] I [] λr I' M'=>r=.string (strOf (sp aX t))/\(∀ b o,I b=some o->I' b=some o)/\M'=[]:=by
 refine bY [3] aV Tryz.func244 rfl rfl rfl ?_;intro B ay;have n7:=aI.n;cases al:right t with
 |true=>
  have PT:sp aX t=od aX t.ns t.bR:=by simp[sp,al]
  rw[PT];have sm:=Cs al;obtain⟨r,ra⟩:=lX sm.1;have hA:r<t.ns.length:=by omega
  obtain⟨ns,K7,K8,K9,bR⟩:=t;simp only at ra;subst ra;have ra:(⟨ns,K7,K8,K9,Int.ofNat r⟩:eH).bR=Int.ofNat r:=rfl;refine cq.scope aV rfl (λy:Nat×Hy=>Xd ⟨ns,K7,K8,K9,Int.ofNat r⟩ y.1 y.2) (λ_=>0) (λy=>K2 I aX ⟨ns,K7,K8,K9,Int.ofNat r⟩ y.2) (λy=>xD ns y.2.2.2.1) (λ_=>PM (Hw (Tryz.f244.body.getD .skip)) 0) (λ_ _=>⟨by kernel_rfl,by kernel_rfl⟩) ?_ ?_
  ·refine a9.mk [] [] _ (.refl _) (Cq bO.c aI) ?_;rintro v I' M' -⟨rfl,rfl,rfl⟩;rw[al];refine aM.mk (λh=>by cases h) (λ_=>?_);refine cy.mk λg aB vK=>?_;refine cy.mk λgP xG atp=>?_;refine Xi (t1:=1) (t2:=3) (t3:=4) (λG CE=>Xe bO aI al az (p:=λl y=>K2 _ aX ⟨ns,K7,K8,K9,Int.ofNat r⟩ y.2/\0=l) (g:=g) (gR.new,⟨some gP,1,1,oe (r,0,false)⟩,[(r,0,false)],I') ?_ (λy aT _=>⟨aT,rfl⟩) B ay G CE) rfl rfl rfl rfl;refine⟨λ_ _ h=>h,gR.KM,⟨rfl,(λh=>by cases h),λbN _=>⟨rfl,b2 _,by simp only[maxLen];omega,rfl⟩⟩,by simp,?_,?_,?_⟩
   ·intro e he;simp only[jw]at he;subst he;exact hA
   ·simp only[vW,List.reverse_singleton,qh,List.flatMap_nil,eo];have dk:=Xb (aX:=aX) al hA false;simp only at dk |-;rw[dk];simp[gR.new,paren]
   ·have U:=Xc al hA false;have aa:=ahu al;simp only[KU]at U aa;simp only[xD,dQ,oN,k',List.sum_nil];omega
  ·rintro⟨g,x⟩ab;refine Xi (t1:=1) (t2:=3) (t3:=4) (λG CE=>Xe bO aI al az (g:=g) x ab (λy aT a0=>⟨⟨aT,rfl⟩,a0⟩) B ay G CE) rfl rfl rfl rfl
 |false=>
  have PT:sp aX t=[]:=by simp[sp,al]
  rw[PT];refine cq.scope aV rfl (ι:=Empty) (λe=>nomatch e) (λe=>nomatch e) (λe=>nomatch e) (λe=>nomatch e) (λ_=>.skip) (λe=>nomatch e) ?_ (λe=>nomatch e);refine a9.mk [] [] _ (.refl _) (Cq bO.c aI) ?_;rintro v I' M' -⟨rfl,rfl,rfl⟩;rw[al];refine aM.mk (λ_=>?_) (λh=>by cases h);exact⟨_,_,.refl,rfl,λ_ _ h=>h,rfl⟩
def bD.val(d:bD):Value:=.agg #[.string d.name,.slice d.t.a d.t.n d.t.c,.int .i64 d.t.bR]
def uR(aX:List Int)(d:bD):List UInt8:=
 bif decide (strOf (sp aX d.t)=⟨#[]⟩) || !oR d.name then []else d.name.data.toList++[32,60,45,32]++sp aX d.t++[10]
def Xj(h:oR s=true):s.size<=32:=by unfold oR at h;simp only[ct,eY]at h;omega
def ahC(aX:List Int)(d:bD):(uR aX d).length<=37+2412*d.t.ns.length:=by
 have U:=W9 aX d.t;unfold uR;cases aJ:(decide (strOf (sp aX d.t)=⟨#[]⟩) || !oR d.name)with
 |true=>simp| false=>simp only[n8,vS]at aJ;have aa:=Xj aJ.2;have af:d.name.data.toList.length=d.name.size:=rfl;simp only[aQ,di,eM,ko];omega
def ahD(bO:gu I aX){d:bD}(ah:d.ok I)(az:d.t.n<=1024):Spec Tryz.prog 231 [d.val] I [] λr I' M'=>r=.string (strOf (uR aX d))/\(∀ b o,I b=some o->I' b=some o)/\M'=[]:=by
 refine bY [] aV Tryz.func231 rfl rfl rfl ?_;intro B ay;refine a9.mk [] [] _ (.refl _) (ahB bO ah.t az) ?_;rintro v cW M1 -⟨rfl,b4,rfl⟩;refine c0.mk (λU=>?_) (λU=>?_)
 ·refine a9.mk [] [] _ (.refl _) (Po _ d.name) ?_;rintro v I' M' -⟨rfl,rfl,rfl⟩;refine aM.mk (λaa=>?_) (λaa=>?_)
  ·refine⟨_,_,.refl,?_,b4,rfl⟩;have:uR aX d=[]:=by unfold uR;rw[U,aa];rfl
   rw[this];rfl
  ·have hm:oR d.name=true:=by simpa using aa
   have aa:=Xj hm;have af:d.name.data.toList.length=d.name.size:=rfl;have aN:=W9 aX d.t;have bq:=ah.t.n;refine fU.concat (a:=d.name) (b:=strOf [32,60,45,32]) (by show _+4<=_;omega) ?_;refine fU.concat (a:=d.name++strOf [32,60,45,32]) (b:=strOf (sp aX d.t)) (by rw[KT];show _+4+(sp aX d.t).length<=_;omega) ?_;refine fU.concat (a:=d.name++strOf [32,60,45,32]++strOf (sp aX d.t)) (b:=strOf [10]) (by rw[KT,KT];show _+4+(sp aX d.t).length+1<=_;omega) ?_;refine⟨_,_,.refl,?_,b4,rfl⟩;refine congrArg Value.string (Es ?_);rw[uR,U,hm];simp[strOf]
 ·refine⟨_,_,.refl,?_,b4,rfl⟩;have:uR aX d=[]:=by unfold uR;rw[U];rfl
  rw[this];rfl
def zi(aX:List Int):List bD->List UInt8->List UInt8
 |[],bc=>bc| d::ds,bc=>bif decide (strOf (uR aX d)=⟨#[]⟩)then []else zi aX ds (bc++uR aX d)
def ahE(bO:gu I aX)(aB:g.ok I)(az:g.n<=64)(aI:∀ d∈g.ds,d.t.n<=1024):Spec Tryz.prog 207 [g.val] I [] λr I' M'=>r=.string (strOf (zi aX g.ds []))/\(∀ b o,I b=some o->I' b=some o)/\M'=[]:=by
 refine bY [3] aV Tryz.func207 rfl rfl rfl ?_;intro B ay;have gC:=aB.n;have EA:∀ d∈g.ds,d.t.ns.length<=1024:=λd ah=>by rw[(aB.ds d ah).t.n];exact aI d ah
 refine cy.mk λb ag Em=>?_;refine ea.inv (ι:=Nat×gR×a5) (λp=>{ bK:=[(3,.val (ptr b)),(8,.val (.slice g.a g.n g.c)),(9,.val (.int .i64 g.n)),(10,.val (.int .i64 p.1))],dz:=p.2.2,d':=p.2.1.M b }) (λp=>p.1<=g.n/\p.2.1.ok/\(∀ b o,I b=some o->p.2.2 b=some o)/\p.2.1.c1.length<=2500000*p.1/\zi aX g.ds []=zi aX (g.ds.drop p.1) p.2.1.c1) (λp=>g.n-p.1) ?_ ?_
 ·exact⟨(0,gR.new,I),⟨by simp,gR.KM,λ_ _ h=>h,by simp[gR.new],rfl⟩,.refl,fo,.nil⟩
 ·rintro⟨i,x,cW⟩⟨hi,ab,b4,m0,pK⟩;simp only at hi ab b4 m0 pK;refine aM.mk (λh=>?_) (λh=>?_)
  ·have a0:i<g.n:=by simpa using h
   have bZ:i<g.ds.length:=by omega
   have g6:=aB.mono b4;obtain⟨ad,b3,br⟩:=g6.bj.row bD.dc a0 bZ;have eI:g.ds[i]∈g.ds:=dr bZ;have tB:=ahC aX g.ds[i];have dk:=EA _ eI;have j7:g.ds.drop i=g.ds[i]::g.ds.drop (i+1):=fg bZ;refine bl.mk ad i b3 rfl a0 ?_;refine aw.mk _ (br _) ?_;refine a9.mk [] (x.M b) _ (.refl _) (ahD (bO.mono b4) (g6.ds _ eI) (aI _ eI)) ?_;rintro v eC dU -⟨rfl,h5,rfl⟩;refine aM.mk (λU=>?_) (λU=>?_);·refine⟨_,_,.sub (eN _) .refl,?_,λb o h=>h5 _ _ (b4 _ _ h),rfl⟩;rw[pK,j7,zi,U];rfl
   ·refine a9.mk (x.M b) [] _ (by simp) (vL b ab _ (by show _+(uR aX g.ds[i]).length<=_;omega)) ?_;rintro v I' M' -⟨rfl,rfl,y,aT,ia,rfl⟩;have Xk:y.c1=x.c1++uR aX g.ds[i]:=ia;have gB:IntKind.i64.wrap ((i:Int)+1)=((i+1:Nat):Int):=by rw[wrap_i64 ⟨by omega,by omega⟩];omega
    refine bb.mk _ gB ?_;refine⟨(i+1,y,_),⟨⟨by simp only;omega,aT,λb o h=>h5 _ _ (b4 _ _ h),?_,?_⟩,by simp only;omega⟩,.perm (by simp) .refl,fo,.nil⟩;·simp only;rw[Xk,di];omega
    ·simp only;rw[pK,j7,zi,U,Xk];rfl
  ·have cE:g.n<=i:=by simpa using h
   have fi:g.ds.drop i=[]:=iG (by omega);refine a9.mk (x.M b) [] _ (by simp) (y9 b ab (by omega)) ?_;rintro v I' M' -⟨rfl,rfl,rfl⟩;refine⟨_,_,.refl,?_,b4,by simp⟩;rw[pK,fi];rfl
def ahF(bO:gu I aX)(aB:g.ok I)(az:g.n<=64)(aI:∀ d∈g.ds,d.t.n<=1024):Spec Tryz.prog 136 [g.val] I [] λr I' M'=>r=.int .i64 ((zi aX g.ds []).length:Int)/\(∀ b o,I b=some o->I' b=some o)/\M'=[]:=by refine bY [] aV Tryz.func136 rfl rfl rfl ?_;intro B ay;refine a9.mk [] [] _ (.refl _) (ahE bO aB az aI) ?_;rintro v I' M' -⟨rfl,bX,rfl⟩;exact⟨_,_,.refl,rfl,bX,rfl⟩
def qv(ns:List bh)(kind:Int):List Int->Bool
 |[]=>true| k::ks=>bif decide (pL ns k=kind)||(decide (pL ns k=0)&&decide (kind=4))then false else qv ns kind ks
def rh(ns:List bh):List bh->Bool
 |[]=>true| d::ds=>bif !decide (d.k=4) && !decide (d.k=5)then rh ns ds else bif qv ns d.k d.aS then rh ns ds else false
def normal(t:eH):Bool:=right t&&rh t.ns t.ns
def c7(h:i<=140737488355328):IntKind.i64.wrap ((i:Int)+1)=((i+1:Nat):Int):=by rw[wrap_i64 ⟨by omega,by omega⟩];omega
def ahG(aJ:si I)(aI:t.ok I):Spec Tryz.prog 88 [t.val] I [] (λv I' M'=>v=.bool (normal t)/\I'=I/\M'=[]):=by
 refine bY [] aV Tryz.func88 rfl rfl rfl ?_;intro B ay;have az:=aI.n;have iH:=aI.bj.cap;refine a9.mk [] [] _ (.refl _) (Cq aJ aI) ?_;rintro v I' M' -⟨rfl,rfl,rfl⟩;refine aM.mk (λh=>?_) (λh=>?_)
 ·refine⟨_,_,.refl,?_,rfl,rfl⟩;simp[normal,show right t=false by simpa using h]
 ·have al:right t=true:=by simpa using h
  have eb:normal t=rh t.ns t.ns:=by simp[normal,al]
  rw[eb];refine ea.inv (ι:=Nat) (λi=>{ bK:=[(1,.ref 1 0),(12,.val (.slice t.a t.n t.c)),(13,.val (.int .i64 t.n)),(14,.val (.int .i64 i))],cl:=[(1,t.cells)],dz:=I' }) (λi=>i<=t.n/\rh t.ns t.ns=rh t.ns (t.ns.drop i)) (λi=>t.n-i) ?_ ?_;·exact⟨0,⟨by simp,rfl⟩,.refl,fo,.cons rfl .nil⟩
  ·rintro i⟨hi,jc⟩;refine aM.mk (λh=>?_) (λh=>?_)
   ·have a0:i<t.n:=by simpa using h
    have bZ:i<t.ns.length:=by omega
    obtain⟨ad,b3,br⟩:=aI.bj.row bh.dc a0 bZ;have kr:=aI.ns t.ns[i] (dr bZ);have ev:=kr.kn;have j7:t.ns.drop i=t.ns[i]::t.ns.drop (i+1):=fg bZ;refine bl.mk ad i b3 rfl a0 ?_;refine aw.mk _ (br _) ?_;refine c0.mk (λeJ=>?_) (λeJ=>?_)
    ·refine aM.mk (λc3=>?_) (λc3=>?_)
     ·refine bb.mk _ (c7 (i:=i) (by omega)) ?_;refine⟨i+1,⟨⟨by omega,?_⟩,by omega⟩,.refl,fo,.cons rfl .nil⟩;rw[jc,j7,rh,eJ,c3];rfl
     ·have hj:rh t.ns t.ns=bif qv t.ns t.ns[i].k t.ns[i].aS then rh t.ns (t.ns.drop (i+1))else false:=by rw[jc,j7,rh,eJ,c3];rfl
      refine ea.inv (ι:=Nat) (λj=>{ bK:=[(1,.ref 1 0),(4,.ref 4 0),(12,.val (.slice t.a t.n t.c)),(13,.val (.int .i64 t.n)),(14,.val (.int .i64 i)),(27,.val (.slice t.ns[i].ml t.ns[i].kn t.ns[i].k7)),(28,.val (.int .i64 t.ns[i].kn)),(29,.val (.int .i64 j))],cl:=[(1,t.cells),(4,t.ns[i].cells)],dz:=I' }) (λj=>j<=t.ns[i].kn/\qv t.ns t.ns[i].k t.ns[i].aS=qv t.ns t.ns[i].k (t.ns[i].aS.drop j)) (λj=>t.ns[i].kn-j) ?_ ?_;·exact⟨0,⟨by simp,rfl⟩,.refl,Ap,.cons rfl (.cons rfl .nil)⟩
      ·rintro j⟨an,ly⟩;refine aM.mk (λh=>?_) (λh=>?_)
       ·have fp:j<t.ns[i].kn:=by simpa using h
        have lZ:j<t.ns[i].aS.length:=by omega
        obtain⟨h',iI,gY⟩:=kr.bj.one fp lZ;have jb:t.ns[i].aS.drop j=t.ns[i].aS[j]::t.ns[i].aS.drop (j+1):=fg lZ;have h7:=pD al i bZ _ (dr lZ);generalize qp:t.ns[i].aS[j]=ahH at *;obtain⟨q,rfl⟩:=lX h7.1;have gT:q<t.ns.length:=by omega
        have pN:q<t.n:=by omega
        obtain⟨ss,ze,zf⟩:=aI.bj.row bh.dc pN gT;have zg:∀ M,cx I' M ((ss.add (q*9)).add 0) 1 [.int .u8 t.ns[q].k]:=λM=>(zf M).part (k:=0) (m:=1) (by decide);have vY:pL t.ns ((q:Nat):Int)=t.ns[q].k:=by simp[pL,dB,gT]
        have bad:(decide (t.ns[q].k=t.ns[i].k)||(decide (t.ns[q].k=0)&&decide (t.ns[i].k=4)))=true->rh t.ns t.ns=false:=λag=>by rw[hj,ly,jb,qv,vY,ag];rfl
        have HD:(decide (t.ns[q].k=t.ns[i].k)||(decide (t.ns[q].k=0)&&decide (t.ns[i].k=4)))=false->qv t.ns t.ns[i].k t.ns[i].aS=qv t.ns t.ns[i].k (t.ns[i].aS.drop (j+1)):=λag=>by rw[ly,jb,qv,vY,ag];rfl
        have gB:=c7 (i:=j) (by have:=kr.bj.cap;omega);refine bl.mk h' j iI rfl fp ?_;refine aw.mk _ (gY _) ?_;refine bl.mk ss q ze rfl pN ?_;refine aw.mk _ (zg _) ?_;refine c0.mk (λfm=>?_) (λfm=>?_)
        ·refine c0.mk (λfj=>?_) (λfj=>?_)
         ·refine aM.mk (λoX=>?_) (λoX=>?_)
          ·refine⟨_,_,.refl,?_,rfl,rfl⟩;rw[bad (by rw[fm,fj,oX];rfl)]
          ·refine bb.mk _ gB ?_;exact⟨j+1,⟨⟨by omega,HD (by rw[fm,fj,oX];rfl)⟩,by omega⟩,.refl,Ap,.cons rfl (.cons rfl .nil)⟩
         ·refine bb.mk _ gB ?_;exact⟨j+1,⟨⟨by omega,HD (by rw[fm,fj];rfl)⟩,by omega⟩,.refl,Ap,.cons rfl (.cons rfl .nil)⟩
        ·refine⟨_,_,.refl,?_,rfl,rfl⟩;rw[bad (by rw[fm];rfl)]
       ·have Cr:t.ns[i].aS.drop j=[]:=iG (by simp at h;omega);refine bb.mk _ (c7 (i:=i) (by omega)) ?_;refine⟨i+1,⟨⟨by omega,?_⟩,by omega⟩,.refl,fo,.cons rfl .nil⟩;rw[hj,ly,Cr];rfl
    ·have hj:rh t.ns t.ns=bif qv t.ns t.ns[i].k t.ns[i].aS then rh t.ns (t.ns.drop (i+1))else false:=by rw[jc,j7,rh,eJ];rfl
     refine ea.inv (ι:=Nat) (λj=>{ bK:=[(1,.ref 1 0),(4,.ref 4 0),(12,.val (.slice t.a t.n t.c)),(13,.val (.int .i64 t.n)),(14,.val (.int .i64 i)),(27,.val (.slice t.ns[i].ml t.ns[i].kn t.ns[i].k7)),(28,.val (.int .i64 t.ns[i].kn)),(29,.val (.int .i64 j))],cl:=[(1,t.cells),(4,t.ns[i].cells)],dz:=I' }) (λj=>j<=t.ns[i].kn/\qv t.ns t.ns[i].k t.ns[i].aS=qv t.ns t.ns[i].k (t.ns[i].aS.drop j)) (λj=>t.ns[i].kn-j) ?_ ?_;·exact⟨0,⟨by simp,rfl⟩,.refl,Ap,.cons rfl (.cons rfl .nil)⟩
     ·rintro j⟨an,ly⟩;refine aM.mk (λh=>?_) (λh=>?_)
      ·have fp:j<t.ns[i].kn:=by simpa using h
       have lZ:j<t.ns[i].aS.length:=by omega
       obtain⟨h',iI,gY⟩:=kr.bj.one fp lZ;have jb:t.ns[i].aS.drop j=t.ns[i].aS[j]::t.ns[i].aS.drop (j+1):=fg lZ;have h7:=pD al i bZ _ (dr lZ);generalize qp:t.ns[i].aS[j]=ahH at *;obtain⟨q,rfl⟩:=lX h7.1;have gT:q<t.ns.length:=by omega
       have pN:q<t.n:=by omega
       obtain⟨ss,ze,zf⟩:=aI.bj.row bh.dc pN gT;have zg:∀ M,cx I' M ((ss.add (q*9)).add 0) 1 [.int .u8 t.ns[q].k]:=λM=>(zf M).part (k:=0) (m:=1) (by decide);have vY:pL t.ns ((q:Nat):Int)=t.ns[q].k:=by simp[pL,dB,gT]
       have bad:(decide (t.ns[q].k=t.ns[i].k)||(decide (t.ns[q].k=0)&&decide (t.ns[i].k=4)))=true->rh t.ns t.ns=false:=λag=>by rw[hj,ly,jb,qv,vY,ag];rfl
       have HD:(decide (t.ns[q].k=t.ns[i].k)||(decide (t.ns[q].k=0)&&decide (t.ns[i].k=4)))=false->qv t.ns t.ns[i].k t.ns[i].aS=qv t.ns t.ns[i].k (t.ns[i].aS.drop (j+1)):=λag=>by rw[ly,jb,qv,vY,ag];rfl
       have gB:=c7 (i:=j) (by have:=kr.bj.cap;omega);refine bl.mk h' j iI rfl fp ?_;refine aw.mk _ (gY _) ?_;refine bl.mk ss q ze rfl pN ?_;refine aw.mk _ (zg _) ?_;refine c0.mk (λfm=>?_) (λfm=>?_)
       ·refine c0.mk (λfj=>?_) (λfj=>?_)
        ·refine aM.mk (λoX=>?_) (λoX=>?_)
         ·refine⟨_,_,.refl,?_,rfl,rfl⟩;rw[bad (by rw[fm,fj,oX];rfl)]
         ·refine bb.mk _ gB ?_;exact⟨j+1,⟨⟨by omega,HD (by rw[fm,fj,oX];rfl)⟩,by omega⟩,.refl,Ap,.cons rfl (.cons rfl .nil)⟩
        ·refine bb.mk _ gB ?_;exact⟨j+1,⟨⟨by omega,HD (by rw[fm,fj];rfl)⟩,by omega⟩,.refl,Ap,.cons rfl (.cons rfl .nil)⟩
       ·refine⟨_,_,.refl,?_,rfl,rfl⟩;rw[bad (by rw[fm];rfl)]
      ·have Cr:t.ns[i].aS.drop j=[]:=iG (by simp at h;omega);refine bb.mk _ (c7 (i:=i) (by omega)) ?_;refine⟨i+1,⟨⟨by omega,?_⟩,by omega⟩,.refl,fo,.cons rfl .nil⟩;rw[hj,ly,Cr];rfl
   ·have cE:t.n<=i:=by simpa using h
    have fi:t.ns.drop i=[]:=iG (by omega);refine⟨_,_,.refl,?_,rfl,rfl⟩;rw[jc,fi];rfl
def xH(t:eH):Nat:=bif right t then t.n else 0
def CG(g:cA):Nat:=(g.ds.map λd=>xH d.t).sum
def Xl{α:Type}(f:α->Nat)(m:Nat):∀ (l:List α),(∀ x∈l,f x<=m)->(l.map f).sum<=m*l.length
 |[],_=>by simp
 |x::l,h=>by have U:=h x (by simp);have aa:=Xl f m l λy aT=>h y (by simp[aT]);simp only[dQ,k',eM,Nat.mul_add];omega
def ahI(aJ:si I)(aB:g.ok I)(az:g.n<=64)(aI:∀ d∈g.ds,d.t.n<=1024):Spec Tryz.prog 135 [g.val] I [] (λv I' M'=>v=.int .i64 (CG g:Nat)/\I'=I/\M'=[]):=by
 refine bY [] aV Tryz.func135 rfl rfl rfl ?_;intro B ay;have gC:=aB.n;refine ea.inv (ι:=Nat) (λi=>{ bK:=[(3,.val (.int .i64 (((g.ds.take i).map λd=>xH d.t).sum:Nat))),(7,.val (.slice g.a g.n g.c)),(8,.val (.int .i64 g.n)),(9,.val (.int .i64 i))],dz:=I }) (λi=>i<=g.n) (λi=>g.n-i) ?_ ?_
 ·exact⟨0,by simp,.refl,fo,.nil⟩
 ·intro i hi;refine aM.mk (λh=>?_) (λh=>?_)
  ·have a0:i<g.n:=by simpa using h
   have bZ:i<g.ds.length:=by omega
   obtain⟨ad,b3,br⟩:=aB.bj.row bD.dc a0 bZ;have eI:g.ds[i]∈g.ds:=dr bZ;have ax:((g.ds.take i).map λd=>xH d.t).sum<=1024*(g.ds.take i).length:=Xl _ 1024 _ λd ah=>by
    have:=aI d (Hm ah);unfold xH;cases right d.t<;>simp
    omega
   have aE:=GX i g.ds;have g3:xH g.ds[i].t<=1024:=by
    have:=aI _ eI;unfold xH;cases right g.ds[i].t<;>simp
    omega
   refine bl.mk ad i b3 rfl a0 ?_;refine aw.mk _ (br _) ?_;refine a9.mk [] [] _ (.refl _) (agN aJ (aB.ds _ eI).t) ?_;rintro v I' M' -⟨rfl,rfl,rfl⟩;have aC:(bif right g.ds[i].t then(g.ds[i].t.n:Int)else 0)=(xH g.ds[i].t:Nat):=by
    unfold xH;cases right g.ds[i].t<;>rfl
   rw[aC];refine bb.mk ((((g.ds.take (i+1)).map λd=>xH d.t).sum:Nat):Int) ?_ ?_;·rw[wrap_i64 ⟨by omega,by omega⟩,iT bZ,gW,Cw];simp
   refine bb.mk _ (c7 (i:=i) (by omega)) ?_;exact⟨i+1,⟨by omega,by omega⟩,.refl,fo,.nil⟩
  ·have cE:g.n<=i:=by simpa using h
   refine⟨_,_,.refl,?_,rfl,rfl⟩;rw[gM (by omega)];rfl
def uS(aX:List Int)(g:cA):Bool:=
 decide (64<g.n)||((!g.ds.all λd=>vJ d.t)||(decide (1024<CG g)||decide (8192<(zi aX g.ds []).length)))
def ahJ(bO:gu I aX)(aB:g.ok I):Spec Tryz.prog 89 [g.val] I [] (λv I' M'=>v=.bool (uS aX g)/\(∀ b o,I b=some o->I' b=some o)/\M'=[]):=by
 refine bY [] aV Tryz.func89 rfl rfl rfl ?_;intro B ay;have gC:=aB.n;refine aM.mk (λU=>?_) (λU=>?_)
 ·refine⟨_,_,.refl,?_,λ_ _ h=>h,rfl⟩;have:64<g.n:=by simp at U;omega
  simp[uS,this]
 ·have az:g.n<=64:=by simp at U;omega
  have b':uS aX g=((!g.ds.all λd=>vJ d.t)||(decide (1024<CG g)||decide (8192<(zi aX g.ds []).length))):=by
   have:¬ 64<g.n:=by omega
   simp[uS,this]
  rw[b'];refine ea.inv (ι:=Nat) (λi=>{ bK:=[(1,.ref 1 0),(10,.val (.slice g.a g.n g.c)),(11,.val (.int .i64 g.n)),(12,.val (.int .i64 i))],cl:=[(1,[.slice g.a g.n g.c])],dz:=I }) (λi=>i<=g.n/\(g.ds.take i).all (λd=>vJ d.t)=true) (λi=>g.n-i) ?_ ?_;·exact⟨0,⟨by simp,rfl⟩,.refl,fo,.cons rfl .nil⟩
  ·rintro i⟨hi,gq⟩;refine aM.mk (λh=>?_) (λh=>?_)
   ·have a0:i<g.n:=by simpa using h
    have bZ:i<g.ds.length:=by omega
    obtain⟨ad,b3,br⟩:=aB.bj.row bD.dc a0 bZ;have eI:g.ds[i]∈g.ds:=dr bZ;refine bl.mk ad i b3 rfl a0 ?_;refine aw.mk _ (br _) ?_;refine a9.mk [] [] _ (.refl _) (agR bO.c (aB.ds _ eI).t) ?_;rintro v I' M' -⟨rfl,rfl,rfl⟩;refine aM.mk (λaa=>?_) (λaa=>?_)
    ·refine⟨_,_,.refl,?_,λ_ _ h=>h,rfl⟩;have ar:vJ g.ds[i].t=false:=by simpa using aa
     have:(g.ds.all λd=>vJ d.t)=false:=by rw[KV];exact⟨_,eI,by simp[ar]⟩
     rw[this];rfl
    ·have ar:vJ g.ds[i].t=true:=by simpa using aa
     refine bb.mk _ (c7 (i:=i) (by omega)) ?_;refine⟨i+1,⟨⟨by omega,?_⟩,by omega⟩,.refl,fo,.cons rfl .nil⟩;rw[iT bZ,KX,gq];simp[ar]
   ·have cE:g.n<=i:=by simpa using h
    rw[gM (by omega)]at gq;rw[gq];have Xm:∀ d∈g.ds,d.t.n<=1024:=λd ah=>by have:=hI.1 gq d ah;unfold vJ at this;simp only[ct,eY]at this;exact this.1
    refine a9.mk [] [] _ (.refl _) (ahI bO.c aB az Xm) ?_;rintro v I' M' -⟨rfl,rfl,rfl⟩;refine c0.mk (λaa=>?_) (λaa=>?_)
    ·refine a9.mk [] [] _ (.refl _) (ahF bO aB az Xm) ?_;rintro v eC M' -⟨rfl,h5,rfl⟩;refine⟨_,_,.refl,?_,h5,rfl⟩;have jn:¬ 1024<CG g:=by simp at aa;omega
     simp[jn];omega
    ·refine⟨_,_,.refl,?_,λ_ _ h=>h,rfl⟩;have jn:1024<CG g:=by simp at aa;omega
     simp[jn]
def ee(name:ByteArray):List bD->Nat->Int
 |[],_=>-1| d::ds,i=>bif decide (d.name=name)then(i:Int)else ee name ds (i+1)
def Xn(aB:g.ok I)(name:ByteArray):Spec Tryz.prog 59 [g.val,.string name] I [] (λv I' M'=>v=.int .i64 (ee name g.ds 0)/\I'=I/\M'=[]):=by
 refine bY [] aV Tryz.func59 rfl rfl rfl ?_;intro B ay;have gC:=aB.n;have iH:=aB.bj.cap;refine ea.inv (ι:=Nat) (λi=>{ bK:=[(1,.val (.string name)),(8,.val (.slice g.a g.n g.c)),(9,.val (.int .i64 g.n)),(10,.val (.int .i64 i))],dz:=I }) (λi=>i<=g.n/\ee name g.ds 0=ee name (g.ds.drop i) i) (λi=>g.n-i) ?_ ?_
 ·exact⟨0,⟨by simp,rfl⟩,.refl,fo,.nil⟩
 ·rintro i⟨hi,ar⟩;refine aM.mk (λh=>?_) (λh=>?_)
  ·have a0:i<g.n:=by simpa using h
   have bZ:i<g.ds.length:=by omega
   obtain⟨ad,b3,br⟩:=aB.bj.row bD.dc a0 bZ;have j7:g.ds.drop i=g.ds[i]::g.ds.drop (i+1):=fg bZ;refine bl.mk ad i b3 rfl a0 ?_;refine aw.mk _ (br _) ?_;refine aM.mk (λaa=>?_) (λaa=>?_);·refine⟨_,_,.refl,?_,rfl,rfl⟩;rw[ar,j7,ee,aa];rfl
   ·refine bb.mk _ (c7 (i:=i) (by omega)) ?_;refine⟨i+1,⟨⟨by omega,?_⟩,by omega⟩,.refl,fo,.nil⟩;rw[ar,j7,ee,aa];rfl
  ·have cE:g.n<=i:=by simpa using h
   refine⟨_,_,.refl,?_,rfl,rfl⟩;rw[ar,iG (by omega)];rfl
def drop_cons{L:List α}{x:α}{au:List α}(h:L.drop k=x::au):∃ ae:k<L.length,L[k]=x/\L.drop (k+1)=au:=by
 have ae:k<L.length:=by apply Nat.lt_of_not_le;intro bz;rw[iG bz]at h;cases h
 have ah:=fg ae;rw[h]at ah;obtain⟨U,aa⟩:=G1 ah;exact⟨ae,U.symm,aa.symm⟩
def uT:Nat->List bD->List (List Value)
 |_,[]=>[]| i,d::ds=>d.t.ns.map (λn=>[.int .i64 i,n.val])++uT (i+1) ds
def ahK(g:cA):Spec Tryz.prog 90 [g.val] I [] λr I' M'=>∃ b,r=.func (.func 137) #[] #[ptr b]/\I' b=some (.cells #[.slice g.a g.n g.c] 24 (0,0))/\(∀ b o,I b=some o->I' b=some o)/\M'=[]:=by refine bY [1] aV Tryz.func90 rfl rfl rfl ?_;intro B ay;refine cy.mk λg aB vK=>?_;exact⟨_,_,.n2 rfl (by simp) .refl,g,rfl,pJ ..,ku aB,rfl⟩
def ahL(aB:g.ok I){b:Nat}(ag:I b=some (.cells #[.slice g.a g.n g.c] 24 (0,0))) :
  Iter Tryz.prog 137 [ptr b] I (uT 0 g.ds):=by
 intro l R tn uM dZ M0 n' kN;refine An [] aV Tryz.func137 rfl rfl rfl ?_;intro B ay;have gC:=aB.n;have iH:=aB.bj.cap;have br:∀ (M:List aF),cx dZ M ((⟨b,0,none⟩:Addr).add 0) 1 [.slice g.a g.n g.c]:=λM=>⟨rfl,_,_,_,.inl (n' _ _ ag),rfl,rfl⟩;refine aw.mk _ (br _) ?_;refine ea.inv (ι:=Nat×Nat×a5×List aF) (λx=>{ bK:=[(0,.val (.func (.yield l) #[] #[])),(8,.val (.slice g.a g.n g.c)),(9,.val (.int .i64 g.n)),(10,.val (.int .i64 x.1))],dz:=x.2.2.1,d':=x.2.2.2 }) (λx=>x.1<=g.n/\(∀ b o,I b=some o->x.2.2.1 b=some o)/\R x.2.1 x.2.2.1 x.2.2.2/\x.2.1<=(uT 0 g.ds).length/\(uT 0 g.ds).drop x.2.1=uT x.1 (g.ds.drop x.1)) (λx=>g.n-x.1) ?_ ?_
 ·exact⟨(0,0,dZ,M0),⟨by simp,n',kN,by simp,rfl⟩,.refl,fo,.nil⟩
 ·rintro⟨i,k,cW,M1⟩⟨hi,b4,hB,e4,fx⟩;simp only at hi b4 hB e4 fx;refine aM.mk (λh=>?_) (λh=>?_)
  ·have a0:i<g.n:=by simpa using h
   have bZ:i<g.ds.length:=by omega
   have g6:=aB.mono b4;obtain⟨ad,b3,v0⟩:=g6.bj.row bD.dc a0 bZ;have eI:g.ds[i]∈g.ds:=dr bZ;have ri:=(aB.ds _ eI).t.n;have Xo:=(aB.ds _ eI).t.bj.cap;have j7:g.ds.drop i=g.ds[i]::g.ds.drop (i+1):=fg bZ;refine bl.mk ad i b3 rfl a0 ?_;refine aw.mk _ (v0 _) ?_;refine ea.inv (ι:=Nat×Nat×a5×List aF) (λx=>{ bK:=[(0,.val (.func (.yield l) #[] #[])),(3,.val (.int .i64 i)),(8,.val (.slice g.a g.n g.c)),(9,.val (.int .i64 g.n)),(10,.val (.int .i64 i)),(17,.val (.slice g.ds[i].t.a g.ds[i].t.n g.ds[i].t.c)),(18,.val (.int .i64 g.ds[i].t.n)),(19,.val (.int .i64 x.1))],dz:=x.2.2.1,d':=x.2.2.2 }) (λx=>x.1<=g.ds[i].t.n/\(∀ b o,I b=some o->x.2.2.1 b=some o)/\R x.2.1 x.2.2.1 x.2.2.2/\x.2.1<=(uT 0 g.ds).length/\(uT 0 g.ds).drop x.2.1=(g.ds[i].t.ns.drop x.1).map (λn=>[.int .i64 i,n.val])++uT (i+1) (g.ds.drop (i+1))) (λx=>g.ds[i].t.n-x.1) ?_ ?_;·refine⟨(0,k,cW,M1),⟨by simp,b4,hB,e4,?_⟩,.refl,Ap,.nil⟩;simp only;rw[fx,j7];rfl
   ·rintro⟨j,k,cW,M1⟩⟨an,b4,hB,e4,fx⟩;simp only at an b4 hB e4 fx;refine aM.mk (λh=>?_) (λh=>?_)
    ·have fp:j<g.ds[i].t.n:=by simpa using h
     have lZ:j<g.ds[i].t.ns.length:=by omega
     have g6:=aB.mono b4;obtain⟨j',HE,lW⟩:=(g6.ds _ eI).t.bj.row bh.dc fp lZ;have bV:g.ds[i].t.ns.drop j=g.ds[i].t.ns[j]::g.ds[i].t.ns.drop (j+1):=fg lZ;rw[bV,dQ,py]at fx;obtain⟨ae,aj,nI⟩:=drop_cons fx;refine bl.mk j' j HE rfl fp ?_;refine aw.mk _ (lW _) ?_;refine bE.yield rfl (by simp) rfl rfl ?_;have aT:=uM k ae cW M1 b4 hB;rw[aj]at aT;refine Ej.mk M1 [] _ (by simp) aT ?_;rintro v eC dU h5 (⟨rfl,ik⟩ | ⟨rfl,ab⟩);·refine aM.mk (λh=>by simp at h) (λ_=>?_);refine bb.mk _ (c7 (i:=j) (by omega)) ?_;exact⟨(j+1,k+1,eC,dU),⟨⟨by simp only;omega,λb o h=>h5 b o (b4 b o h),ik,ae,nI⟩,by simp only;omega⟩,.perm (by simp) .refl,Ap,.nil⟩
     ·refine aM.mk (λ_=>?_) (λh=>by simp at h);exact⟨_,_,.perm (by simp) .refl,.inr ab⟩
    ·have cE:g.ds[i].t.n<=j:=by simpa using h
     rw[iG (show g.ds[i].t.ns.length<=j by omega),oN,nz]at fx;refine bb.mk _ (c7 (i:=i) (by omega)) ?_;exact⟨(i+1,k,cW,M1),⟨⟨by simp only;omega,b4,hB,e4,fx⟩,by simp only;omega⟩,.refl,fo,.nil⟩
  ·have cE:g.n<=i:=by simpa using h
   refine⟨_,_,.refl,.inl ?_⟩;rw[iG (show g.ds.length<=i by omega)]at fx;have vO:k=(uT 0 g.ds).length:=by have:=GW.1 fx;omega
   rw[<-vO];exact hB
section
variable{X:dw}{β:Nat->Nat}{a:Act}{w:World}{F:Fr}{C:dX}{I:a5}{M:List aF}{o:Oper}{K:hb}
def db.swap{n:Nat}{pB K':Obj}{w':World}(h:db X β a w F C I (⟨n,pB⟩::M))(ax:w'.heap.size=w.heap.size)(az:w'.heap[n]?=some K')(ag:∀ b,b≠n->w'.heap[b]?=w.heap[b]?)(aD:pq w w'):db X β a w' F C I (⟨n,K'⟩::M):=by
 have U:=h.V5 ax ag aD;have gx:(⟨n,pB⟩:aF)∈(⟨n,pB⟩:aF)::M:=by simp
 have bV:=h.holds.aG;simp only[dQ,mN]at bV;have mem:∀ x,x∈(⟨n,K'⟩:aF)::M->x=⟨n,K'⟩\/x∈M:=λx ab=>eu.1 ab;exact {
  size:=U.size
  defers:=by
   obtain⟨bj,aC,aA,bx⟩:=U.defers;obtain⟨ahM,f1,f2,f3⟩:=h.defers;refine⟨bj,aC,aA,λr al=>{ bx r al with fh:=λx ab=>?_ }⟩;rcases mem x ab with rfl | ab
   ·have cU:bj=ahM:=by
     have:=aC.symm.trans f1;have La:∀ l c8:List Nat,l.map yT=c8.map yT->l=c8:=by
      intro l
      induction l with
      |nil=>intro c8 h;cases c8 with
       |nil=>rfl| cons=>simp at h
      |cons y l be=>intro c8 h;cases c8 with
       |nil=>simp at h
       |cons z c8=>
        simp only[dQ,zb,yT,Deferred.mk.injEq]at h;have aT:y=z:=by simpa using h.1
        rw[aT,be c8 h.2]
     exact La _ _ this
    subst cU;exact(f3 r al).fh ⟨n,pB⟩ gx
   ·exact(bx r al).fh x ab
  holds:={
   i:=U.holds.i
   m:=λx ab=>by
    rcases mem x ab with rfl | ab;·exact az
    ·exact U.holds.m x ab
   d:=λx ab=>by
    rcases mem x ab with rfl | ab;·exact h.holds.d ⟨n,pB⟩ gx
    ·exact U.holds.d x ab
   aG:=by simpa using bV }
  ak:=h.ak
  cC:=λs cs lS=>by
   have vD:=h.cC s cs lS;refine { U.cC s cs lS with fh:=λx ab=>?_ };rcases mem x ab with rfl | ab;·exact vD.fh ⟨n,pB⟩ gx
   ·exact(U.cC s cs lS).fh x ab
  inj:=h.inj
  iY:=h.iY
  ih:=h.ih
  own:=λx ab=>by
   rcases mem x ab with rfl | ab;·exact h.own ⟨n,pB⟩ gx
   ·exact U.own x ab
  dS:=U.dS
  out:=U.out
  sz:=U.sz }
def pO(l:List (ByteArray×Int)):Nat->List MapEntry
 |i=>match l with
  |[]=>[]| p::l=>{ key:=.string p.1,val:=.int .i64 p.2,born:=i }::pO l (i+1)
def ka(l:List (ByteArray×Int)):Obj:=.map (pO l 0).toArray l.length
def eL(s:ByteArray):List (ByteArray×Int)->Option Int
 |[]=>none| p::l=>bif decide (s=p.1)then some p.2 else eL s l
def ahN(l:List (ByteArray×Int))(p:ByteArray×Int):∀ i,pO (l++[p]) i=pO l i++[{ key:=.string p.1,val:=.int .i64 p.2,born:=i+l.length }]:=by
 induction l with
 |nil=>intro i;simp[pO]| cons q l be=>intro i;simp only[py,pO,be,eM,zb,true_and,List.append_cancel_left_eq,MapEntry.mk.injEq,and_true];omega
def bytes_beq(a b:ByteArray):(a == b)=decide (a=b):=by
 rw[nZ];simp only[eY];constructor
 ·intro h
  first | exact eq_of_beq h | exact w1 (eq_of_beq (a:=a.data) (b:=b.data) h)
 ·rintro rfl
  first | exact Gm _ | exact Gm a.data
def Lb(s:ByteArray):∀ (l:List (ByteArray×Int)) (i j:Nat),∃ r,Instr.findNow .string (.string s) (pO l i) j=some r/\r.map (·.2)=(eL s l).map (Value.int .i64)
 |[],i,j=>⟨none,rfl,rfl⟩
 |p::l,i,j=>by
  obtain⟨r,U,aa⟩:=Lb s l (i+1) (j+1);unfold pO Instr.findNow;simp only[Instr.sameNow,bytes_beq];cases ag:decide (s=p.1)with
  |true=>exact⟨_,rfl,by simp[eL,ag]⟩| false=>exact⟨r,U,by simp only[eL,ag,aQ];exact aa⟩
def bE.makeMap(aW:dm X.P X.E){t:Nat}{r:Operand}(aD:o.op=.makeMap t (some r))(ah:∀ d,o.dst=some d->d<X.n){e:Nat}(aI:X.E t=some dT)(eS:dT.bT=.map k e)
  {q:IntKind} {n:Int} (al:bU F r=.val (.int q n)) (h:∀ b,K (put o.dst (.val (.map (some b))) F) C I (⟨b,ka []⟩::M)):bE X o F C I M K:=by
 refine⟨λa w Q ⟨β,ba⟩=>?_⟩;obtain⟨d,fH,gd⟩:=(aW _ _ aI).fM;have U:d=.map k e:=by rw[eS]at gd;cases d<;>simp_all[fF]
 subst U;have PU:=dJ ba.ak al;refine kk (by rw[aD];simp) (v:=.map (some w.heap.size)) (w':=w.alloc (.map #[] 0)) ?_ ⟨_,_,_,_,⟨β,db.put (x:=.val (.map (some w.heap.size))) (ba.qb (ka [])) ah rfl⟩,h _⟩;unfold execOp;simp only[aD,mc,PU];simp[Instr.makeMap,run_underlying fH,asInt,pu]
def bE.lookup(aW:dm X.P X.E){t:Nat}(aD:o.op=.lookup t x y true)(ah:∀ d,o.dst=some d->d<X.n){e:Nat}(aI:X.E t=some dT)(eS:dT.bT=.map k e)(ae:X.E k=some uO)(gE:uO.bT=.string)(bk:∀ w,(zeroValue e).run X.P w=.ok (.int .i64 0) w){g:Nat}(ab:bU F x=.val (.map (some g)))(aT:bU F y=.val (.string s))(a2:(⟨g,ka l⟩:aF)∈M)
  (h:K (put o.dst (.val (.tuple #[.int .i64 ((eL s l).getD 0),.bool (eL s l).isSome])) F) C I M):bE X o F C I M K:=by
 refine⟨λa w Q ⟨β,ba⟩=>?_⟩;obtain⟨d,fH,gd⟩:=(aW _ _ aI).fM;have U:d=.map k e:=by rw[eS]at gd;cases d<;>simp_all[fF]
 subst U;obtain⟨gm,tC,kr⟩:=(aW _ _ ae).fM;have aa:gm=.string:=by rw[gE]at kr;cases gm<;>simp_all[fF]
 subst aa;have aB:w.heap[g]?=some (.map (pO l 0).toArray l.length):=ba.holds.m _ a2;have ex:=dJ ba.ak ab;have q8:=dJ ba.ak aT;obtain⟨r,ur,m1⟩:=Lb s l 0 0;have aJ:(Instr.checkKey (pO l 0).toArray.isEmpty 10000 k (.string s)).run X.P w=.ok () w:=Ew (k:=.string s) tC (by simp[MapKept.IsKey]) _ 9999;have v3:(Instr.findKey k (.string s) (pO l 0)).run X.P w=.ok r w:=Ex tC ur;have ff:(Instr.lookup t (.map (some g)) (.string s) true).run X.P w=.ok (.tuple #[.int .i64 ((eL s l).getD 0),.bool (eL s l).isSome]) w:=by
  unfold Instr.lookup;simp only[cG,run_underlying fH,ck,Ev aB,dv,aJ,v3];cases r with
  |none=>
   cases aE:eL s l with
   |none=>simp[bk]| some v=>rw[aE]at m1;simp at m1
  |some p=>
   cases aE:eL s l with
   |none=>rw[aE]at m1;simp at m1| some v=>rw[aE]at m1;simp only[mc,hq]at m1;simp[m1]
 refine w7 ba ah (by rw[aD];simp) ?_ h;unfold execOp;simp only[aD,ex,q8,cG,ff,ck,dv]
def bE.Xp(aW:dm X.P X.E){t:Nat}{z:Operand}(aD:o.op=.mapUpdate t x y z)(ah:o.dst=none){e:Nat}(aI:X.E t=some dT)(eS:dT.bT=.map k e)(ae:X.E k=some uO)(gE:uO.bT=.string)
  {g:Nat} {v:Int} (ab:bU F x=.val (.map (some g))) (aT:bU F y=.val (.string s)) (B9:bU F z=.val (.int .i64 v)) (aE:eL s l=none)
  {Mr:List aF} (a2:M.Perm (⟨g,ka l⟩::Mr)) (h:K F C I (⟨g,ka (l++[(s,v)])⟩::Mr)):bE X o F C I M K:=by
 refine⟨λa w Q ⟨β,kN⟩=>?_⟩;have ba:db X β a w F C I (⟨g,ka l⟩::Mr):=kN.j0 (.perm a2 .refl);obtain⟨d,fH,gd⟩:=(aW _ _ aI).fM;have U:d=.map k e:=by rw[eS]at gd;cases d<;>simp_all[fF]
 subst U;obtain⟨gm,tC,kr⟩:=(aW _ _ ae).fM;have aa:gm=.string:=by rw[gE]at kr;cases gm<;>simp_all[fF]
 subst aa;have aB:w.heap[g]?=some (.map (pO l 0).toArray l.length):=ba.holds.m ⟨g,ka l⟩ (by simp);have ex:=dJ ba.ak ab;have q8:=dJ ba.ak aT;have qw:=dJ ba.ak B9;obtain⟨r,ur,m1⟩:=Lb s l 0 0;have al:r=none:=by
  rw[aE]at m1;cases r with
  |none=>rfl| some _=>simp at m1
 subst al;have aJ:(Instr.checkKey false 10000 k (.string s)).run X.P w=.ok () w:=Ew (k:=.string s) tC (by simp[MapKept.IsKey]) _ 9999;have v3:(Instr.findKey k (.string s) (pO l 0)).run X.P w=.ok none w:=Ex tC ur;have hy:ka (l++[(s,v)])=.map ((pO l 0).toArray.push { key:=.string s,val:=.int .i64 v,born:=l.length }) (l.length+1):=by unfold ka;rw[ahN];simp
 have ff:(Instr.mapUpdate t (.map (some g)) (.string s) (.int .i64 v)).run X.P w=.ok () { w with heap:=w.heap.setIfInBounds g (ka (l++[(s,v)])) }:=by unfold Instr.mapUpdate;simp only[cG,run_underlying fH,ck,Ev aB,aJ,v3,Py _ aB,hy]
 have jM:=MapKept.heap_set (o':=ka (l++[(s,v)])) aB;refine D3 (by rw[aD];simp) (w':={ w with heap:=w.heap.setIfInBounds g (ka (l++[(s,v)])) }) ?_ ⟨F,C,I,_,⟨β,?_⟩,h⟩
 ·unfold execOp;simp only[aD,ex,q8,qw,cG,ff,ck,dv]
 ·rw[ah];exact ba.swap (by simp) jM.1 jM.2 ⟨rfl,rfl⟩
end
def v5:Nat->List bD->List (Nat×bh)
 |_,[]=>[]| i,d::ds=>d.t.ns.map (λn=>(i,n))++v5 (i+1) ds
def HF:∀ (ds:List bD) (i:Nat),uT i ds=(v5 i ds).map λp=>[.int .i64 p.1,p.2.val]
 |[],i=>rfl| d::ds,i=>by simp only[uT,v5,gW,ms,HF ds (i+1)];rfl
def v7(ds:List bD):Bool:=ds.all λd=>oR d.name&&normal d.t
def rj:List (ByteArray×Int)->Nat->List bD->Option (List (ByteArray×Int))
 |bc,_,[]=>some bc| bc,i,d::ds=>bif (eL d.name bc).isSome then none else rj (bc++[(d.name,(i:Int))]) (i+1) ds
def AS(bc:List (ByteArray×Int))(n:bh):Bool:=!decide (n.k=3)||(eL n.t bc).isSome
def zj(bc:List (ByteArray×Int))(ds:List bD):Bool:=(v5 0 ds).all λp=>AS bc p.2
def e9(aX:List Int)(g:cA):Int:=
 bif decide ((g.n:Int)=0)then 4 else bif !v7 g.ds then 4 else bif uS aX g then 40 else
 match rj [] 0 g.ds with
 |none=>6| some bc=>bif zj bc g.ds then 0 else 41
def v8(b:Nat)(e:Int):aF:=⟨b,.cells #[.int .i64 e] 31 (0,0)⟩
def CH{b:Nat}{e:Int}(h:v8 b e∈M):cx I M ⟨b,0,none⟩ 1 [.int .i64 e]:=
 ⟨rfl,_,_,_,.inr ⟨_,h,rfl,rfl⟩,rfl,rfl⟩
def HG(w:World):(zeroValue 3).run Tryz.prog w=.ok (.int .i64 0) w:=by
 have h:(Tryz.prog.info? 3).map (λi=>i.zero)=some (some (.int .i64 0)):=by kernel_rfl
 obtain⟨i,U,aa⟩:=w0.1 h;simp[zeroValue,typeInfo,U,aa]
def Lc(bO:gu I aX)(aB:g.ok I):Spec Tryz.prog 36 [g.val] I [] (λv I' M'=>v=.int .i64 (e9 aX g)/\(∀ b o,I b=some o->I' b=some o)/\M'=[]):=by
 refine bY [2,5] aV Tryz.func36 rfl rfl rfl ?_;intro B ay;have gC:=aB.n;have iH:=aB.bj.cap;refine cy.mk λch gy ahO=>?_;refine aM.mk (λU=>?_) (λU=>?_)
 ·refine cc.mk [] [] _ _ rfl rfl (bP rfl) rfl ?_;refine aw.mk _ (CH (b:=ch) (e:=4) (.head _)) ?_;refine⟨_,_,.sub (eN _) .refl,?_,λ_ _ h=>h,rfl⟩;rw[e9,U];rfl
 ·have n4:g.n≠0:=by simp at U;omega
  refine ea.inv (ι:=Nat) (λi=>{ bK:=[(1,.ref 1 0),(2,.val (ptr ch)),(19,.val (.slice g.a g.n g.c)),(20,.val (.int .i64 g.n)),(21,.val (.int .i64 i))],cl:=[(1,[.slice g.a g.n g.c])],dz:=I,d':=[v8 ch 0] }) (λi=>i<=g.n/\v7 (g.ds.take i)=true) (λi=>g.n-i) ?_ ?_;·exact⟨0,⟨by simp,rfl⟩,.refl,jj,.cons rfl .nil⟩
  ·rintro i⟨hi,gq⟩;refine aM.mk (λh=>?_) (λh=>?_)
   ·have a0:i<g.n:=by simpa using h
    have bZ:i<g.ds.length:=by omega
    obtain⟨ad,b3,br⟩:=aB.bj.row bD.dc a0 bZ;have eI:g.ds[i]∈g.ds:=dr bZ;have bad:(oR g.ds[i].name&&normal g.ds[i].t)=false->e9 aX g=4:=λag=>by
     have:v7 g.ds=false:=by unfold v7;rw[KV];exact⟨_,eI,by simp[ag]⟩
     rw[e9,U,this];rfl
    refine bl.mk ad i b3 rfl a0 ?_;refine aw.mk _ (br _) ?_;refine a9.mk [] [v8 ch 0] _ (.refl _) (Po _ g.ds[i].name) ?_;rintro v I' M' -⟨rfl,rfl,rfl⟩;refine c0.mk (λaa=>?_) (λaa=>?_)
    ·have hm:oR g.ds[i].name=true:=by simpa using aa
     refine a9.mk [] [v8 ch 0] _ (.refl _) (ahG bO.c (aB.ds _ eI).t) ?_;rintro v I' M' -⟨rfl,rfl,rfl⟩;refine aM.mk (λaf=>?_) (λaf=>?_)
     ·have eb:normal g.ds[i].t=false:=by simpa using af
      refine cc.mk [] [] _ _ rfl rfl (bP rfl) rfl ?_;refine aw.mk _ (CH (b:=ch) (e:=4) (.head _)) ?_;refine⟨_,_,.sub (eN _) .refl,?_,λ_ _ h=>h,rfl⟩;rw[bad (by rw[hm,eb];rfl)];rfl
     ·have eb:normal g.ds[i].t=true:=by simpa using af
      refine bb.mk _ (c7 (i:=i) (by omega)) ?_;refine⟨i+1,⟨⟨by omega,?_⟩,by omega⟩,.refl,jj,.cons rfl .nil⟩;unfold v7 at gq |-;rw[iT bZ,KX,gq];simp[hm,eb]
    ·have hm:oR g.ds[i].name=false:=by simpa using aa
     refine cc.mk [] [] _ _ rfl rfl (bP rfl) rfl ?_;refine aw.mk _ (CH (b:=ch) (e:=4) (.head _)) ?_;refine⟨_,_,.sub (eN _) .refl,?_,λ_ _ h=>h,rfl⟩;rw[bad (by rw[hm];rfl)];rfl
   ·have cE:g.n<=i:=by simpa using h
    rw[gM (by omega)]at gq;refine a9.mk [] [v8 ch 0] _ (.refl _) (ahJ bO aB) ?_;rintro v cW M' -⟨rfl,b4,rfl⟩;refine aM.mk (λaa=>?_) (λaa=>?_);·refine cc.mk [] [] _ _ rfl rfl (bP rfl) rfl ?_;refine aw.mk _ (CH (b:=ch) (e:=40) (.head _)) ?_;refine⟨_,_,.sub (eN _) .refl,?_,b4,rfl⟩;rw[e9,U,gq,aa];rfl
    ·have EC:e9 aX g=match rj [] 0 g.ds with
       |none=>6| some bc=>bif zj bc g.ds then 0 else 41:=by
      rw[e9,U,gq,aa];rfl
     rw[EC];have g6:=aB.mono b4;refine bE.makeMap aV rfl (by simp) rfl rfl rfl λez=>?_;refine cy.mk λeT Ld PV=>?_;refine cc.mk [] [⟨ez,ka []⟩,v8 ch 0] _ _ rfl rfl (bP rfl) rfl ?_;refine ea.inv (ι:=Nat×List (ByteArray×Int)) (λx=>{ bK:=[(1,.ref 1 0),(2,.val (ptr ch)),(5,.val (ptr eT)),(43,.val (.slice g.a g.n g.c)),(44,.val (.int .i64 g.n)),(45,.val (.int .i64 x.1))],cl:=[(1,[.slice g.a g.n g.c])],dz:=cW,d':=[⟨eT,.cells #[.map (some ez)] 96 (0,0)⟩,⟨ez,ka x.2⟩,v8 ch 0] }) (λx=>x.1<=g.n/\rj [] 0 g.ds=rj x.2 x.1 (g.ds.drop x.1)) (λx=>g.n-x.1) ?_ ?_;·exact⟨(0,[]),⟨by simp,rfl⟩,.refl,e7,.cons rfl .nil⟩
     ·rintro⟨i,bc⟩⟨hi,q6⟩;simp only at hi q6;refine aM.mk (λh=>?_) (λh=>?_)
      ·have a0:i<g.n:=by simpa using h
       have bZ:i<g.ds.length:=by omega
       obtain⟨ad,b3,br⟩:=g6.bj.row bD.dc a0 bZ;have j7:g.ds.drop i=g.ds[i]::g.ds.drop (i+1):=fg bZ;refine bl.mk ad i b3 rfl a0 ?_;refine aw.mk _ (br _) ?_;refine aw.mk [.map (some ez)] ⟨rfl,_,_,_,.inr ⟨_,.head _,rfl,rfl⟩,rfl,rfl⟩ ?_;refine bE.lookup aV rfl (by simp) rfl rfl rfl rfl (λw=>HG w) (l:=bc) (g:=ez) rfl rfl (by simp) ?_;refine aM.mk (λaf=>?_) (λaf=>?_);·refine cc.mk [⟨eT,.cells #[.map (some ez)] 96 (0,0)⟩,⟨ez,ka bc⟩] [] _ _ rfl rfl (bP rfl) rfl ?_;refine aw.mk _ (CH (b:=ch) (e:=6) (.tail _ (.tail _ (.head _)))) ?_;refine⟨_,_,.sub (eN _) .refl,?_,b4,rfl⟩;rw[q6,j7,rj,af];rfl
       ·have aE:eL g.ds[i].name bc=none:=by simpa using af
        refine aw.mk [.map (some ez)] ⟨rfl,_,_,_,.inr ⟨_,.head _,rfl,rfl⟩,rfl,rfl⟩ ?_;refine bE.Xp aV rfl rfl rfl rfl rfl rfl rfl rfl rfl aE (Mr:=[⟨eT,.cells #[.map (some ez)] 96 (0,0)⟩,v8 ch 0]) (List.Perm.swap _ _ _) ?_;refine bb.mk _ (c7 (i:=i) (by omega)) ?_;refine⟨(i+1,bc++[(g.ds[i].name,(i:Int))]),⟨⟨by simp only;omega,?_⟩,by simp only;omega⟩,.perm (List.Perm.swap _ _ _) .refl,e7,.cons rfl .nil⟩;simp only;rw[q6,j7,rj,af];rfl
      ·have Xq:g.n<=i:=by simpa using h
       have gd:rj [] 0 g.ds=some bc:=by rw[q6,iG (by omega),rj]
       rw[gd];refine a9.mk [] [⟨eT,.cells #[.map (some ez)] 96 (0,0)⟩,⟨ez,ka bc⟩,v8 ch 0] _ (.refl _) (ahK g) ?_;rintro v eC dU -⟨c6,rfl,zk,h5,rfl⟩;have iJ:=g6.mono h5;have Xr:∀ b o,I b=some o->eC b=some o:=λb o h=>h5 _ _ (b4 _ _ h);refine cq.range aV rfl rfl rfl .refl (ahL iJ zk) (λvs h=>?_) (λk I' M'=>(∀ b o,eC b=some o->I' b=some o)/\((v5 0 g.ds).take k).all (λp=>AS bc p.2)=true/\M'=[⟨eT,.cells #[.map (some ez)] 96 (0,0)⟩,⟨ez,ka bc⟩,v8 ch 0]) (λex I' M'=>ex=.ret/\(∀ b o,eC b=some o->I' b=some o)/\zj bc g.ds=false/\M'=[⟨eT,.cells #[.map (some ez)] 96 (0,0)⟩,⟨ez,ka bc⟩,v8 ch 41]) ⟨λ_ _ h=>h,rfl,rfl⟩ ?_ ?_ ?_;·rw[HF]at h;obtain⟨p,_,rfl⟩:=eh.1 h;rfl
       ·rintro k ae I' M' -⟨hY,bw,rfl⟩l B ay j4;have ED:k<(v5 0 g.ds).length:=by simpa[HF]using ae
        generalize aK:(v5 0 g.ds)[k]=p;have aj:(uT 0 g.ds)[k]=[.int .i64 p.1,p.2.val]:=by simp only[HF,lu,aK]
        rw[aj];have next:AS bc p.2=true->((v5 0 g.ds).take (k+1)).all (λp=>AS bc p.2)=true:=λh=>by rw[iT ED,KX,bw,aK];simp[h]
        refine aM.mk (λaf=>?_) (λaf=>?_)
        ·refine⟨_,_,.refl,hY,next ?_,rfl⟩;have er:decide (p.2.k=3)=false:=by simpa using af
         simp[AS,er]
        ·have er:decide (p.2.k=3)=true:=by simpa using af
         refine aw.mk [.map (some ez)] ⟨rfl,_,_,_,.inr ⟨_,.head _,rfl,rfl⟩,rfl,rfl⟩ ?_;refine bE.lookup aV rfl (by simp) rfl rfl rfl rfl (λw=>HG w) (l:=bc) (g:=ez) rfl rfl (by simp) ?_;refine aM.mk (λaN=>?_) (λaN=>?_)
         ·refine cc.mk [⟨eT,.cells #[.map (some ez)] 96 (0,0)⟩,⟨ez,ka bc⟩] [] _ _ rfl rfl (bP rfl) rfl ?_;refine⟨_,_,.refl,rfl,hY,?_,rfl⟩;unfold zj;rw[KV];have PW:(eL p.2.t bc).isSome=false:=by simpa using aN
          exact⟨p,by rw[<-aK];exact dr ED,by simp[AS,er,PW]⟩
         ·have PW:(eL p.2.t bc).isSome=true:=by simpa using aN
          exact⟨_,_,.refl,hY,next (by simp[AS,PW]),rfl⟩
       ·rintro I' M' -⟨hY,bw,rfl⟩;have PX:zj bc g.ds=true:=by unfold zj;rw[gM (by simp[HF])]at bw;exact bw
        refine cc.mk [⟨eT,.cells #[.map (some ez)] 96 (0,0)⟩,⟨ez,ka bc⟩] [] _ _ rfl rfl (bP rfl) rfl ?_;refine aw.mk _ (CH (b:=ch) (e:=0) (.tail _ (.tail _ (.head _)))) ?_;refine⟨_,_,.sub (eN _) .refl,?_,λb o h=>hY _ _ (Xr _ _ h),rfl⟩;simp only[PX];rfl
       ·rintro ex I' M' -⟨rfl,hY,PX,rfl⟩;refine⟨by simp,?_⟩;refine aw.mk _ (CH (b:=ch) (e:=41) (.tail _ (.tail _ (.head _)))) ?_;refine⟨_,_,.sub (eN _) .refl,?_,λb o h=>hY _ _ (Xr _ _ h),rfl⟩;simp only[PX];rfl
structure AT where
 a:Option Addr
 n:Nat
 c:Nat
 l:List Int
def AT.val(r:AT):Value:=.slice r.a r.n r.c
structure AT.ok(I:a5)(r:AT):Prop where
 bj:fC I r.a r.n r.c 1 8 (r.l.map (.int .i64 ·))
def AT.ok.n{r:AT}(h:r.ok I):r.l.length=r.n:=by have:=h.bj.len;simpa using this
structure jq where
 rows:List AT
 a:Option Addr
 n:Nat
 c:Nat
def jq.val(x:jq):Value:=.slice x.a x.n x.c
structure jq.ok(I:a5)(x:jq):Prop where
 bj:fC I x.a x.n x.c 1 24 (x.rows.map AT.val)
 rows:∀ r∈x.rows,r.ok I
def jq.ok.n{x:jq}(h:x.ok I):x.rows.length=x.n:=by have:=h.bj.len;simpa using this
def uU:bf:=⟨none,0,0,[]⟩
def zl(size:Nat):uU.ok size []:=⟨by simp[uU],λ_=>⟨rfl,rfl⟩,λg h=>by cases h⟩
def bf.ok.ahP{l:List Int}(h:os.ok 1 (l.map (Value.int .i64))):os.n=l.length:=by have:=h.len;simp at this;omega
structure EE where
 a:Option Addr
 n:Nat
 c:Nat
 l:List Bool
def EE.val(r:EE):Value:=.slice r.a r.n r.c
structure EE.ok(I:a5)(r:EE):Prop where
 bj:fC I r.a r.n r.c 1 1 (r.l.map Value.bool)
def EE.ok.n{r:EE}(h:r.ok I):r.l.length=r.n:=by have:=h.bj.len;simpa using this
def PY(m:List Bool)(k:Nat):Prop:=m.getD k false=true
def Le{bi post:List Value}{z:Value}(ae:k=bi.length):bQ (bi++z::post) k [v]=bi++v::post:=by
 subst ae;unfold bQ;have e:(bi++z::post).drop (bi.length+[v].length)=post:=by rw[show bi++z::post=(bi++[z])++post from by simp];exact GZ (by simp)
 rw[e,sf rfl];simp
def rk(W:World):a5:=λb=>W.heap[b]?
def ahQ(W:World):e1 (rk W) [] W:=⟨λb o h=>h,(λx ab=>by cases ab),(λx ab=>by cases ab),yO⟩
structure CI(W kv:World):Prop where
 dS:∀ b,b<W.heap.size->kv.heap[b]?=W.heap[b]?
 sz:W.heap.size<=kv.heap.size
 out:pq W kv
def Xs{f:Nat}{args:List Value}{post:Value->a5->List aF->Prop}(h:w4 P f args (rk W) [] post) :
  Calls P f args.toArray W λe kv=>∃ v,e=.returned v/\(∃ I' M',post v I' M')/\CI W kv:=by
 refine(h.2 W (ahQ W)).mono ?_;rintro e kv⟨v,I',M',rfl,aK,_,fN⟩;exact⟨v,rfl,⟨I',M',aK⟩,λb ag=>fN.dS b ag (λy aT=>by cases aT),fN.sz,fN.out⟩
def CI.kept(h:CI W kv)(may:MemPlace->Prop):W.keptBut kv may:=by
 refine⟨h.out.1,h.out.2,λi hi=>?_⟩;rw[h.dS i hi];cases W.heap[i]? with
 |none=>rfl| some o=>cases o<;>simp
def CI.frozen(h:CI W kv){a:Addr}(aH:a.block<W.heap.size):kv.frozen? a=W.frozen? a:=by unfold World.frozen?;rw[h.dS _ aH]
variable{H:Type}{enc:TypeId×Value->H}{P:Program}
def Xt{f:Func}{s:ChangeSpec}{apart fresh handsOn again:Bool}{ds gs:List (DataW H)}{before pa pv:List MemPlace}(hd:DataW.Whole enc P f.params.toList s.vars apart W args.toList ds gs before)(oY:∀ (b:Nat) (fA:Nat->Bool) (ah:Bool),DataW.TrodAll enc P kv b fA ah f.resultTypes.toList (v.resultList f.resultTypes.size) (s.fn H (ds++gs)).results [])(m3:∀ fA:Nat->Bool,(∀ p∈before,fA p.block=true)->DataW.TrodAll enc P kv 0 fA true f.params.toList args.toList (s.fn H (ds++gs)).args pa)(Xu:∀ fA:Nat->Bool,(∀ p∈before,fA p.block=true)->DataW.TrodVars enc P kv fA s.vars (s.fn H (ds++gs)).vars pv)(iM:before=pa++pv)(ae:CI W kv)(bw:∀ (j:Nat) (t:TypeId) (r:Value),f.resultTypes[j]?=some t->(v.resultList f.resultTypes.size)[j]?=some r->Value.okWide P kv .any 0 t r) :
  s.post enc P f apart fresh handsOn again W args v kv:=by
 have hold:∀ p∈before,(λb=>decide (b<W.heap.size)) p.block=true:=λp aK=>by simpa using hd.lt p aK
 have a0:∀ p∈before,p.block<W.heap.size:=λp aK=>hd.lt p aK;refine⟨ds,gs,before,[],pa,pv,hd,oY _ _ _,m3 _ hold,Xu _ hold,World.keptBut_mono (λp aK=>⟨aK,?_⟩) (ae.kept (·∈before)),λ_=>?_⟩
 ·rw[iM,dV]at aK;exact Or.inr aK
 ·obtain⟨_,_,_,_,_,bk,az⟩:=hd;refine⟨bw,_,_,([]++pa)++pv,⟨[]++pa,pv,ChangeShapes.trodAll_append (m3 _ (λ_ _=>rfl)) (oY _ _ _),Xu _ (λ_ _=>rfl),rfl,?_,?_⟩,?_⟩
  ·intro b off aK;have xI:MemPlace.cell b off∈before:=by rw[iM];simpa using aK
   rw[ae.frozen (a:=⟨b,off,none⟩) (a0 _ xI)];exact bk b off xI
  ·intro aH;have:=az aH;rw[iM]at this;simpa using this
  ·intro p aK _;rw[iM];simpa using aK
def zm:DataW H->Option Value
 | .lit (.int k z)=>some (.int k z)| .lit (.string l)=>some (.string ⟨l.toArray⟩)| .lit (.bool b)=>some (.bool b)| _=>none
def HH(P:Program)(e:TypeId):Bool:=match P.underlying e with
 |some .bool | some (.int _) | some .string=>true| _=>false
section
variable{w:World}{aq:Nat}{fA:Nat->Bool}{held:Bool}{fuel:Nat}{t e:TypeId}{cs:List Value}{d:DataW H}{p:List MemPlace}
def Xv(he:HH P e=true)(h:DataW.trod enc P w aq fA held fuel e cs=some (d,p))(aj:zm d=some v):cs=[v]:=by
 unfold HH at he;split at he
 ·rename_i hu;obtain⟨b,rfl,ab⟩:=DataW.trod_bool hu h;cases ab;simpa[zm]using aj
 ·rename_i k hu;obtain⟨n,rfl,ab,_⟩:=DataW.trod_int hu h;cases ab;simpa[zm]using aj
 ·rename_i hu;obtain⟨s,rfl,ab,_⟩:=KW hu h;cases ab;simpa[zm]using aj
 ·cases he
def Lf{α β:Type}{f:α->Option β}:∀ {l:List α} {r:List β},l.mapM f=some r->r.length=l.length/\∀ i (h:i<l.length) (bg:i<r.length),f l[i]=some r[i]
 |[],r,h=>by simp at h;subst h;exact⟨rfl,λi h=>by simp at h⟩
 |x::l,r,h=>by
  simp only[Gp,Option.bind_eq_bind,On,Option.pure_def,hq]at h;obtain⟨b,ag,qW,hf,rfl⟩:=h;obtain⟨U,aa⟩:=Lf hf;refine⟨by simp[U],λi hi dx=>?_⟩;cases i with
  |zero=>simpa using ag| succ i=>simpa using aa i (by simpa using hi) (by simpa using dx)
def Xw(aE:cs.length=vs.length)(h:∀ i (hi:i<vs.length),(cs.drop i).take 1=[vs[i]]):cs=vs:=by apply xq aE;intro i U aa;have:=h i aa;rw[fg U,oL,oM]at this;simpa using this
def Xx{n:Nat}(aI:P.underlying t=some (.array n e))(he:HH P e=true)(kS:P.cellsOf e=1)(hk:P.cellsOf t=n){ds:List (DataW H)}(h:DataW.trod enc P w aq fA held fuel t cs=some (.agg ds,p))(aj:ds.mapM zm=some vs):cs=vs:=by
 obtain⟨xs,m,rfl,ab,aE,m0,hi⟩:=PC aI h;have lz:ds=xs.map (·.1):=by have:=congrArg Prod.fst ab;simpa using this
 obtain⟨a3,a6⟩:=Lf aj;have tD:vs.length=n:=by rw[a3,lz];simpa using m0
 refine Xw (by rw[aE,hk,tD]) λi dx=>?_;have U:=hi i (by omega);rw[kS,jk]at U;have v9:i<xs.length:=by omega
 rw[g5 v9]at U;have aa:=a6 i (by rw[lz];simpa using v9) dx;have af:ds[i]'(by rw[lz];simpa using v9)=xs[i].1:=by simp[lz]
 rw[af]at aa;exact Xv he (d:=xs[i].1) (p:=xs[i].2) U aa
def ahR(aI:P.underlying t=some (.struct cT))(ar:∀ (i:Nat) (f:Field),cT[i]?=some f->HH P f.type=true/\f.offset=i/\P.cellsOf f.type=1)(hk:P.cellsOf t=cT.size){ds:List (DataW H)}(h:DataW.trod enc P w aq fA held fuel t cs=some (.agg ds,p))(aj:ds.mapM zm=some vs):cs=vs:=by
 obtain⟨xs,m,rfl,ab,aE,m0,hi⟩:=DataW.trod_struct aI h;have lz:ds=xs.map (·.1):=by have:=congrArg Prod.fst ab;simpa using this
 obtain⟨a3,a6⟩:=Lf aj;have tD:vs.length=cT.size:=by rw[a3,lz];simpa using m0
 refine Xw (by rw[aE,hk,tD]) λi dx=>?_;have Xy:i<cT.size:=by omega
 obtain⟨eJ,c3,gr⟩:=ar i cT[i] (DX Xy);have U:=hi i cT[i] (DX Xy);rw[c3,gr]at U;have v9:i<xs.length:=by omega
 rw[g5 v9]at U;have aa:=a6 i (by rw[lz];simpa using v9) dx;have af:ds[i]'(by rw[lz];simpa using v9)=xs[i].1:=by simp[lz]
 rw[af]at aa;exact Xv eJ (d:=xs[i].1) (p:=xs[i].2) U aa
def Xz{sz:Nat}:∀ (rows:List (List Value)) (cs:List Value),cs.length=rows.length*sz->(∀ i (hi:i<rows.length),(cs.drop (i*sz)).take sz=rows[i])->cs=rows.flatten
 |[],cs,aE,_=>nx (by simpa using aE)
 |r::rows,cs,aE,h=>by
  have ay:=h 0 (by simp);simp only[G2,xr,y4]at ay;rw[eM,j3,qj]at aE;have be:=Xz (sz:=sz) rows (cs.drop sz) (by rw[Ax];omega) λi hi=>by have:=h (i+1) (by simpa using hi);rw[Cj,show sz+i*sz=(i+1)*sz from by rw[j3];omega];simpa using this
  rw[PA,<-be,<-ay,y6]
def ahS{n:Nat}(aI:P.underlying t=some (.array n e))(kS:P.cellsOf e=sz)(hk:P.cellsOf t=n*sz){ds:List (DataW H)}(h:DataW.trod enc P w aq fA held fuel t cs=some (.agg ds,p))(al:rows.length=ds.length)
  (jc:∀ i (hi:i<ds.length) (dx:i<rows.length) fuel cs p,DataW.trod enc P w aq fA held fuel e cs=some (ds[i],p)->cs=rows[i]):cs=rows.flatten:=by
 obtain⟨xs,m,rfl,ab,aE,m0,hi⟩:=PC aI h;have lz:ds=xs.map (·.1):=by have:=congrArg Prod.fst ab;simpa using this
 have hA:rows.length=n:=by rw[al,lz];simpa using m0
 refine Xz (sz:=sz) rows cs (by rw[aE,hk,hA]) λi dx=>?_;have U:=hi i (by omega);rw[kS]at U;have v9:i<xs.length:=by omega
 rw[g5 v9]at U;have af:ds[i]'(by rw[lz];simpa using v9)=xs[i].1:=by simp[lz]
 exact jc i (by rw[lz];simpa using v9) dx m _ xs[i].2 (by rw[af];exact U)
def XA(d:DataW H):Option (List Value):=match d with
 | .agg l=>l.mapM zm| _=>none
def PZ{n:Nat}(aI:P.underlying t=some (.array n e))(kS:P.cellsOf e=sz)(hk:P.cellsOf t=n*sz){ds:List (DataW H)}(h:DataW.trod enc P w aq fA held fuel t cs=some (.agg ds,p))(al:ds.mapM XA=some rows)
  (jc:∀ fuel cs p l row,DataW.trod enc P w aq fA held fuel e cs=some (.agg l,p)->l.mapM zm=some row->cs=row):cs=rows.flatten:=by
 obtain⟨a3,a6⟩:=Lf al;refine ahS aI kS hk h a3 λi hi dx fuel cs p bg=>?_;have aa:=a6 i hi dx;unfold XA at aa;split at aa
 ·rename_i l aE;rw[aE]at bg;exact jc _ _ _ _ _ bg aa
 ·cases aa
end
end Go.V
namespace Go.V
open Go Go.Proofs
variable{I:a5}{M:List aF}{os:bf}{α:Type}{size j a i k sz fuel aq pl:Nat}{aX:List Int}{d:bh}{P:Program}{t:eH}{x y:Operand}{g:cA}{w:Bool}{F:Fr}{C:dX}{vs cs:List Value}{s:ByteArray}{dT uO:eE}{l:List (ByteArray×Int)}{v:Value}{args:Array Value}{W kv:World}{cT:Array Field}{rows:List (List Value)}{p:List MemPlace}
def Lg{n:String}{g:Nat}{cs:Array Value}(aB:P.globalNamed n=some g)(h:W.var? P n=some cs):∃ T ak,W.heap[g]?=some (.cells cs T ak):=by
 simp only[World.var?,aB,Option.bind_some]at h;split at h
 ·rename_i c T ak aR;cases h;exact⟨T,ak,aR⟩
 ·cases h
def iN:List Int:=[0,1,56,2,57,49,28,3,61,58,42,50,38,29,17,4,62,47,59,36,45,43,51,22,53,39,33,30,24,18,12,5,63,55,48,27,60,41,37,16,46,35,44,21,52,32,23,11,54,26,40,15,34,20,31,10,25,14,19,9,13,8,7,6]
def ahT{au:List (String×DataW Unit)}(h:laidMet Tryz.prog ([("math/bits.deBruijn32tab",YtjambecdkaahmaaGreatDoor.Rows.laid_math_bits_deBruijn32tab),("math/bits.deBruijn64tab",YtjambecdkaahmaaGreatDoor.Rows.laid_math_bits_deBruijn64tab),("internal/strconv.uint64pow10",YtjambecdkaahmaaGreatDoor.Rows.laid_internal_strconv_uint64pow10),("bonsai/tree.counts",YtjambecdkaahmaaGreatDoor.Rows.laid_bonsai_tree_counts),("bonsai/print.counts",YtjambecdkaahmaaGreatDoor.Rows.laid_bonsai_print_counts),("bonsai/print.signs",YtjambecdkaahmaaGreatDoor.Rows.laid_bonsai_print_signs)]++au) W):gu (rk W) iN:=by
 obtain⟨ps,c4,_⟩:=h;obtain⟨a3,t1,atq,f1,pH,ed,g6,HA,Ea,fx,c4,_⟩:=c4;obtain⟨a6,t2,ahU,f2,pI,dP,iJ,qu,hN,nI,c4,_⟩:=c4;obtain⟨bN,t3,atr,f3,uV,gS,mq,ats,tE,xJ,c4,_⟩:=c4;obtain⟨gP,t4,ahV,f4,CJ,iq,xG,P0,ahW,P1,c4,_⟩:=c4;obtain⟨pA,t5,ahX,f5,ahY,att,CK,ahZ,ah0,ah1,c4,_⟩:=c4;obtain⟨Lh,t6,ah2,f6,atu,atv,XB,ah3,ah4,ah5,c4,_⟩:=c4;obtain rfl:=ld ((show Tryz.prog.globalNamed "math/bits.deBruijn64tab" = some 5 by kernel_rfl).symm.trans iJ)
 obtain rfl:=ld ((show(Tryz.prog.globals[5]?).map (·.type)=some 390 by kernel_rfl).symm.trans qu);obtain rfl:=ld ((show Tryz.prog.globalNamed "bonsai/tree.counts" = some 0 by kernel_rfl).symm.trans xG)
 obtain rfl:=ld ((show(Tryz.prog.globals[0]?).map (·.type)=some 262 by kernel_rfl).symm.trans P0);obtain rfl:=ld ((show Tryz.prog.globalNamed "bonsai/print.counts" = some 3 by kernel_rfl).symm.trans CK)
 obtain rfl:=ld ((show(Tryz.prog.globals[3]?).map (·.type)=some 388 by kernel_rfl).symm.trans ahZ);obtain rfl:=ld ((show Tryz.prog.globalNamed "bonsai/print.signs" = some 1 by kernel_rfl).symm.trans XB)
 obtain rfl:=ld ((show(Tryz.prog.globals[1]?).map (·.type)=some 353 by kernel_rfl).symm.trans ah3);obtain⟨CC,fP,ch⟩:=Lg iJ hN;obtain⟨PQ,rl,cK⟩:=Lg xG ahW;obtain⟨ah6,uW,eT⟩:=Lg CK ah0;obtain⟨ah7,HI,b6⟩:=Lg XB ah4;have fj:ahU.toList=iN.map (Value.int .u8):=Xx (show Tryz.prog.underlying 390=some (.array 64 5) by kernel_rfl) (by kernel_rfl) (by kernel_rfl) (by kernel_rfl) nI (by kernel_rfl);have zn:ahV.toList=oS.map (Value.int .i64):=PZ (n:=10) (sz:=2) (show Tryz.prog.underlying 262=some (.array 10 261) by kernel_rfl) (by kernel_rfl) (by kernel_rfl) P1 (rows:=[[.int .i64 0,.int .i64 0],[.int .i64 0,.int .i64 0],[.int .i64 0,.int .i64 0],[.int .i64 0,.int .i64 0],[.int .i64 2,.int .i64 (-1)],[.int .i64 2,.int .i64 (-1)],[.int .i64 1,.int .i64 1],[.int .i64 1,.int .i64 1],[.int .i64 1,.int .i64 1],[.int .i64 1,.int .i64 1]]) (by kernel_rfl) (λ_ _ _ _ _ U aa=>Xx (show Tryz.prog.underlying 261=some (.array 2 3) by kernel_rfl) (by kernel_rfl) (by kernel_rfl) (by kernel_rfl) U aa);have fields:∀ {t:TypeId},(match Tryz.prog.underlying t with
   |some (.struct cT)=>decide (Tryz.prog.cellsOf t=cT.size)&&(List.range cT.size).all λi=>match cT[i]? with
    |some f=>HH Tryz.prog f.type&&(decide (f.offset=i)&&decide (Tryz.prog.cellsOf f.type=1))| none=>false
   |_=>false)=true->∀ (fuel:Nat) (cs:List Value) (p:List MemPlace) (l:List (DataW Unit)) (row:List Value),DataW.trod (λ_=>()) Tryz.prog W 0 (λ_=>true) false fuel t cs=some (.agg l,p)->l.mapM zm=some row->cs=row:=by
  intro t aJ fuel cs p l row U aa;split at aJ;·rename_i cT hu;simp only[ct,eY,hI,me]at aJ;refine ahR hu (λi f ar=>?_) aJ.1 U aa;have hi:=aJ.2 i (ma.1 ar).1;rw[ar]at hi;simpa using hi
  ·cases aJ
 have AU:ahX.toList=Hr:=PZ (n:=3) (sz:=3) (show Tryz.prog.underlying 388=some (.array 3 387) by kernel_rfl) (by kernel_rfl) (by kernel_rfl) ah1 (rows:=[[.int .i64 0,.int .i64 1,.string ⟨#[63]⟩],[.int .i64 0,.int .i64 (-1),.string ⟨#[42]⟩],[.int .i64 1,.int .i64 (-1),.string ⟨#[43]⟩]]) (by kernel_rfl) (fields (by kernel_rfl));have EF:ah2.toList=vU.map λl=>Value.string (strOf l):=PZ (n:=10) (sz:=3) (show Tryz.prog.underlying 353=some (.array 10 352) by kernel_rfl) (by kernel_rfl) (by kernel_rfl) ah5 (rows:=[[.string ⟨#[]⟩,.string ⟨#[]⟩,.string ⟨#[]⟩],[.string ⟨#[]⟩,.string ⟨#[]⟩,.string ⟨#[]⟩],[.string ⟨#[]⟩,.string ⟨#[]⟩,.string ⟨#[]⟩],[.string ⟨#[]⟩,.string ⟨#[]⟩,.string ⟨#[]⟩],[.string ⟨#[]⟩,.string ⟨#[32]⟩,.string ⟨#[]⟩],[.string ⟨#[]⟩,.string ⟨#[32,47,32]⟩,.string ⟨#[]⟩],[.string ⟨#[]⟩,.string ⟨#[]⟩,.string ⟨#[]⟩],[.string ⟨#[38]⟩,.string ⟨#[]⟩,.string ⟨#[]⟩],[.string ⟨#[33]⟩,.string ⟨#[]⟩,.string ⟨#[]⟩],[.string ⟨#[60]⟩,.string ⟨#[]⟩,.string ⟨#[62]⟩]]) (by kernel_rfl) (fields (by kernel_rfl));have arr:∀ {cs:Array Value} {l:List Value},cs.toList=l->cs=l.toArray:=λh=>by apply hJ;simpa using h
 refine⟨⟨PQ,rl,?_⟩,⟨ah6,uW,?_⟩,⟨ah7,HI,?_⟩,by decide,by decide,CC,fP,?_⟩
 ·rw[<-arr zn];exact cK
 ·rw[<-arr AU];exact eT
 ·rw[<-arr EF];exact b6
 ·rw[<-arr fj];exact ch
def EG(cs:Array Value):Obj->Obj
 | .cells _ t ak=>.cells cs t ak| o=>o
def ah8:List Int:=(List.range 20).map λi=>(10:Int)^i
def ah9:List Int:=[0,1,28,2,29,14,24,3,30,22,20,15,25,17,4,8,31,27,13,23,21,19,16,7,26,12,18,6,11,5,10,9]
noncomputable def EH(os:Os):World:=
 { World.holding Tryz.prog os ⟨#[],#[],[]⟩with heap:=((((((World.holding Tryz.prog os ⟨#[],#[],[]⟩).heap.modify 0 (EG (oS.map (Value.int .i64)).toArray)).modify 3 (EG Hr.toArray)).modify 1 (EG (vU.map λl=>Value.string (strOf l)).toArray)).modify 5 (EG (iN.map (Value.int .u8)).toArray)).modify 2 (EG (ah8.map (Value.int .u64)).toArray)).modify 4 (EG (ah9.map (Value.int .u8)).toArray) }
def own:ownKnob Tryz.prog.godebug=none:=by kernel_rfl
def laidOut:laidOutB Tryz.prog=true:=by kernel_rfl
def Li{l:List α}{q:α->Bool}(h:l.all q=true){x:α}(ab:x∈l):q x=true:=hI.1 h x ab
def XC{L:List (String×DataW Unit)}(c4:laidMetH Tryz.prog L W)(he:L=[("math/bits.deBruijn32tab",YtjambecdkaahmaaGreatDoor.Rows.laid_math_bits_deBruijn32tab),("math/bits.deBruijn64tab",YtjambecdkaahmaaGreatDoor.Rows.laid_math_bits_deBruijn64tab),("internal/strconv.uint64pow10",YtjambecdkaahmaaGreatDoor.Rows.laid_internal_strconv_uint64pow10),("bonsai/tree.counts",YtjambecdkaahmaaGreatDoor.Rows.laid_bonsai_tree_counts),("bonsai/print.counts",YtjambecdkaahmaaGreatDoor.Rows.laid_bonsai_print_counts),("bonsai/print.signs",YtjambecdkaahmaaGreatDoor.Rows.laid_bonsai_print_signs)]):gu (rk W) iN:=by
 subst he;exact ahT (au:=[]) c4
structure HJ(I:a5)(d:bh):Prop where
 k:0<=d.k/\d.k<256
 e2:hh d.e2
 s1:hh d.s1
 s2:hh d.s2
 eK:hh d.eK
 lo:jm d.lo
 hi:jm d.hi
 bj:fC I d.ml d.kn d.k7 1 0 (d.aS.map (.int .i64 ·))
 aS:∀ x∈d.aS,jm x
 ts:d.t.size<=9223372036854775807
structure EI(I:a5)(t:eH):Prop where
 bj:fC I t.a t.n t.c 9 0 (t.ns.flatMap bh.cells)
 ns:∀ d∈t.ns,HJ I d
 bR:jm t.bR
structure P2(I:a5)(d:bD):Prop where
 name:d.name.size<=9223372036854775807
 t:EI I d.t
structure zo(I:a5)(g:cA):Prop where
 bj:fC I g.a g.n g.c 3 0 (g.ds.flatMap bD.cells)
 ds:∀ d∈g.ds,P2 I d
def fC.P3{a:Option Addr}{n c b h2:Nat}(h:fC I a n c size b vs)(ag:n*h2<=140737488355328):fC I a n c size h2 vs:=⟨h.len,⟨h.cap.1,ag⟩,h.rd⟩
def zo.n(h:zo I g):g.ds.length=g.n:=by have:=h.bj.len;rw[fu _ 3 bD.dc]at this;omega
def EI.n(h:EI I t):t.ns.length=t.n:=by have:=h.bj.len;rw[fu _ 9 bh.dc]at this;omega
def ei{x r:Int}(h:x=r)(al:-9223372036854775808<=r/\r<=9223372036854775807):IntKind.i64.wrap x=r:=by rw[h];exact wrap_i64 al
def bf.aia{l:List Int}{e:Nat}(h:os.ok 1 (l.map (.int .i64 ·)))(a2:∀ x∈os.aO e,x∈M)(an:j<l.length) :
  ∃ ad,(os.a.map λg=>(⟨g,0,none⟩:Addr))=some ad/\cx I M (ad.add (j*1)) 1 [.int .i64 l[j]]:=by
 obtain⟨a,n,c,aY⟩:=os;have aE:=h.ahP;simp only at aE;cases a with
 |none=>have:=(h.nil rfl).1;simp only at this;omega
 |some g=>
  obtain⟨U,aa,af,aN⟩:=h.cap g rfl;simp only at U aa aN;refine⟨⟨g,0,none⟩,rfl,?_⟩;rw[dY _ rfl];refine⟨rfl,_,_,_,.inr ⟨⟨g,.cells aY.toArray e (0,0)⟩,a2 _ (by simp[bf.aO]),rfl,rfl⟩,?_,rfl⟩;simp only[dp,jk];have ji:j<(l.map (Value.int .i64)).length:=by simpa using an
  have aC:(aY.take (n*1))[j]?=some (.int .i64 l[j]):=by rw[aN];simp[an]
  rw[mM]at aC;have ly:j<n*1:=by omega
  rw[cF ly]at aC;have XD:j<aY.length:=(kG.1 aC).1;rw[fg XD,oL,oM];rw[g5 XD]at aC;rw[ld aC]
section
variable{H:Type}{enc:TypeId×Value->H}{P:Program}{W:World}{aq:Nat}{fA:Nat->Bool}{held:Bool}
def XE{α:Type}{p:Nat->α->Prop}:∀ (n:Nat),(∀ i,i<n->∃ d,p i d)->∃ l:List α,l.length=n/\∀ i (h:i<l.length),p i l[i]
 |0,_=>⟨[],rfl,λi h=>by simp at h⟩
 |n+1,h=>by
  obtain⟨l,U,aa⟩:=XE n λi hi=>h i (by omega);obtain⟨d,ah⟩:=h n (by omega);refine⟨l++[d],by simp[U],λi hi=>?_⟩;by_cases a0:i<l.length;·rw[List.getElem_append_left a0];exact aa i a0
  ·have e:i=l.length:=by simp at hi;omega
   subst e;simpa[U]using ah
def P4{f:α->List Value}(ax:0<size)(ar:∀ x,(f x).length=size)(ok:α->Prop){t e:TypeId}(aI:P.underlying t=some (.slice e))(aJ:P.cellsOf e=size)(jc:∀ fuel cs x,DataW.trod enc P W aq fA held fuel e cs=some x->∃ d,cs=f d/\ok d){x:DataW H×List MemPlace}(h:DataW.trod enc P W aq fA held fuel t cs=some x) :
  ∃ (a:Option Addr) (n c:Nat) (l:List α),cs=[.slice a n c]/\fC (rk W) a n c size 0 (l.flatMap f)/\l.length=n/\(∀ d∈l,ok d)/\(a=none->c=0)/\c<=maxLen:=by
 rcases DataW.trod_slice aI h with⟨rfl,_⟩ | ⟨a,len,cap,atw,au,m,_,rfl,_,ag,aE,hm,cg,aib,_,_⟩
 ·exact⟨none,0,0,[],rfl,⟨by simp,⟨b2 _,by omega⟩,.inl rfl⟩,rfl,λd ah=>by simp at ah,λ_=>rfl,by unfold maxLen;omega⟩
 have each:∀ i,i<len->∃ d,ok d/\W.cells? aq (a.add (i*size)) size=some (f d):=λi hi=>by have U:=aib i hi;rw[aJ,g5 (by omega)]at U;obtain⟨cs',aa,af⟩:=On.1 U;obtain⟨d,rfl,ah⟩:=jc _ _ _ af;exact⟨d,ah,aa⟩
 obtain⟨l,r5,mv⟩:=XE len each;refine⟨some a,len,cap,l,rfl,⟨by rw[fu f size ar,r5],⟨aE,by omega⟩,?_⟩,r5,λd ah=>?_,λh=>by simp at h,hm⟩
 ·by_cases ay:len=0
  ·exact .inl ay
  right
  have nJ:=(mv 0 (by omega)).2;obtain⟨-,-,lA⟩:=World.cells?_some nJ;have Lj:=lA 0 ax;rw[g5 (by rw[ar];exact ax)]at Lj;have XF:a.spot=none:=by
   have:=World.cell?_spot Lj;cases bL:a.spot with
   |none=>rfl| some s=>simp[Addr.add,bL]at this
  refine⟨a,rfl,XF,?_⟩;have XG:∀ i (hi:i<l.length),∀ k,k<size->W.cell? ⟨a.block,a.off+(i*size+k),none⟩=(f l[i])[k]?:=λi hi k ae=>by obtain⟨-,-,aR⟩:=World.cells?_some (mv i hi).2;have:=aR k ae;rw[dY _ XF,dY _ rfl]at this;rw[<-this];congr 2;simp only[];omega
  have P5:∃ cs T ak,W.heap[a.block]?=some (.cells cs T ak):=by
   have U:=XG 0 (by omega) 0 ax;rw[g5 (by rw[ar];exact ax)]at U;unfold World.cell? at U;cases aR:W.heap[a.block]? with
   |none=>simp[aR]at U
   |some o=>
    cases o with
    |cells cs T ak=>exact⟨cs,T,ak,rfl⟩| _=>simp[aR]at U
  obtain⟨cs,T,ak,aR⟩:=P5;refine⟨cs,T,ak,aR,?_⟩;have mw:=fu f size ar l;apply Ci;intro j;by_cases an:j<len*size
  ·have hdiv:j/size<l.length:=by rw[r5];exact Nat.div_lt_of_lt_mul (by rw[Ey];exact an)
   have zp:=Ez j ax;have e:=Nat.div_add_mod j size;rw[Ey]at e;have U:=XG (j/size) hdiv (j%size) zp;rw[e]at U;have aa:=y8 f size ar l (j/size) hdiv;have af:(l.flatMap f)[j]?=(f l[j/size])[j%size]?:=by rw[<-aa,mM,cF zp,s8,e]
   rw[af,<-U,mM,cF an,s8];simp[World.cell?,aR]
  ·rw[qR (by rw[mV];omega),qR (by rw[mw,r5];omega)]
 ·obtain⟨i,hi,rfl⟩:=vR ah;exact(mv i hi).1
def CL{k:IntKind}{t:TypeId}{x:DataW H×List MemPlace}(aI:P.underlying t=some (.int k))(h:DataW.trod enc P W aq fA held fuel t cs=some x):∃ n,cs=[.int k n]/\(Lit.int k n).wf=true:=by obtain⟨n,U,_,aa⟩:=DataW.trod_int aI h;exact⟨n,U,aa⟩
def wf_i64{n:Int}(h:(Lit.int .i64 n).wf=true):jm n:=by simp[Lit.wf,IntKind.min,IntKind.max,IntKind.signed,IntKind.bits]at h;exact h
def wf_u64{n:Int}(h:(Lit.int .u64 n).wf=true):hh n:=by simp[Lit.wf,IntKind.min,IntKind.max,IntKind.signed,IntKind.bits]at h;unfold hh;omega
def wf_u8{n:Int}(h:(Lit.int .u8 n).wf=true):0<=n/\n<256:=by simp[Lit.wf,IntKind.min,IntKind.max,IntKind.signed,IntKind.bits]at h;omega
end
section
variable{H:Type}{enc:TypeId×Value->H}{W:World}{aq:Nat}{fA:Nat->Bool}{held:Bool}
def aic{x:DataW H×List MemPlace}(h:DataW.trod enc Tryz.prog W aq fA held fuel 70 cs=some x) :
  ∃ (a:Option Addr) (n c:Nat) (l:List Int),cs=[.slice a n c]/\fC (rk W) a n c 1 0 (l.map (.int .i64 ·))/\l.length=n/\∀ k∈l,jm k:=by
 obtain⟨a,n,c,l,U,aa,af,aN,-,-⟩:=P4 (f:=λk=>[Value.int .i64 k]) (size:=1) (by decide) (λ_=>rfl) jm (show Tryz.prog.underlying 70=some (.slice 3) by kernel_rfl) (by kernel_rfl)
  (λfuel cs x h=>by
   obtain⟨n,U,aa⟩:=CL (show Tryz.prog.underlying 3=some (.int .i64) by kernel_rfl) h;exact⟨n,U,wf_i64 aa⟩) h
 refine⟨a,n,c,l,U,?_,af,aN⟩;rwa [<-List.map_eq_flatMap]at aa
def aid{l:List α}(h:l.length=4):∃ a b c d,l=[a,b,c,d]:=by
 match l,h with
 |[a,b,c,d],_=>exact⟨a,b,c,d,rfl⟩
def aie{l:List α}(h:l.length=9):∃ a b c d e f g i j,l=[a,b,c,d,e,f,g,i,j]:=by
 match l,h with
 |[a,b,c,d,e,f,g,i,j],_=>exact⟨a,b,c,d,e,f,g,i,j,rfl⟩
def aif{l:List α}(h:l.length=3):∃ a b c,l=[a,b,c]:=by
 match l,h with
 |[a,b,c],_=>exact⟨a,b,c,rfl⟩
def aih{l:List α}(h:l.length=2):∃ a b,l=[a,b]:=by
 match l,h with
 |[a,b],_=>exact⟨a,b,rfl⟩
def aii{l:List α}(h:l.length=1):∃ a,l=[a]:=by
 match l,h with
 |[a],_=>exact⟨a,rfl⟩
def aij{x:DataW H×List MemPlace}(h:DataW.trod enc Tryz.prog W aq fA held fuel 49 cs=some x) :
  ∃ a b c d:Int,cs=[.int .u64 a,.int .u64 b,.int .u64 c,.int .u64 d]/\hh a/\hh b/\hh c/\hh d:=by
 obtain⟨xs,m,_,_,aE,m0,hi⟩:=PC (show Tryz.prog.underlying 49=some (.array 4 47) by kernel_rfl) h;rw[show Tryz.prog.cellsOf 49=4 by kernel_rfl]at aE;rw[show Tryz.prog.cellsOf 47=1 by kernel_rfl]at hi;have hu:Tryz.prog.underlying 47=some (.int .u64):=by kernel_rfl
 obtain⟨a,b,c,d,rfl⟩:=aid aE;have get:∀ i,(mQ:i<4)->∃ n,(([a,b,c,d]:List Value).drop (i*1)).take 1=[.int .u64 n]/\hh n:=λi mQ=>by have U:=hi i mQ;rw[g5 (by omega)]at U;obtain⟨n,aa,af⟩:=CL hu U;exact⟨n,aa,wf_u64 af⟩
 obtain⟨n0,b',qx⟩:=get 0 (by decide);obtain⟨gZ,aC,eJ⟩:=get 1 (by decide);obtain⟨hQ,aA,c3⟩:=get 2 (by decide);obtain⟨tF,bx,gr⟩:=get 3 (by decide);simp at b' aC aA bx;subst b' aC aA bx;exact⟨_,_,_,_,rfl,qx,eJ,c3,gr⟩
def HK{t:Nat}{l:List (Nat×Nat)}(h:(match P.underlying t with
  |some (.struct cT)=>decide (cT.toList.map (λf=>(f.type,f.offset))=l)| _=>false)=true):∃ cT,P.underlying t=some (.struct cT)/\cT.toList.map (λf=>(f.type,f.offset))=l:=by
 split at h
 ·rename_i cT hu;exact⟨cT,hu,cm h⟩
 ·cases h
def Lk{P:Program}{l:List (Nat×Nat)}{q:Nat->Nat->Prop}(ar:cT.toList.map (λf=>(f.type,f.offset))=l)(h:∀ (i:Nat) (f:Field),cT[i]?=some f->q f.type f.offset):∀ (i t o:Nat),l[i]?=some (t,o)->q t o:=by subst ar;intro i t o hi;simp only[yL,w0,KY]at hi;obtain⟨f,U,rfl,rfl⟩:=hi;exact h i f (by simpa using U)
def Ll{t:TypeId}{x:DataW H×List MemPlace}(aI:P.underlying t=some (.struct cT))(h:DataW.trod enc P W aq fA held fuel t cs=some x) :
  cs.length=P.cellsOf t/\∀ (i:Nat) (f:Field),cT[i]?=some f->∃ fuel y,DataW.trod enc P W aq fA held fuel f.type ((cs.drop f.offset).take (P.cellsOf f.type))=some y:=by
 obtain⟨xs,m,_,_,aE,m0,hi⟩:=DataW.trod_struct aI h;refine⟨aE,λi f ar=>?_⟩;have a0:=(ma.1 ar).1;have U:=hi i f ar;rw[g5 (by omega)]at U;exact⟨_,_,U⟩
def aik{x:DataW H×List MemPlace}(h:DataW.trod enc Tryz.prog W aq fA held fuel 83 cs=some x):∃ d:bh,cs=d.cells/\HJ (rk W) d:=by obtain⟨cT,aI,ar⟩:∃ cT,Tryz.prog.underlying 83=some (.struct cT)/\cT.toList.map (λf=>(f.type,f.offset))=[(5,0),(49,1),(9,5),(3,6),(3,7),(70,8)]:=HK (by kernel_rfl);obtain⟨aE,hi⟩:=Ll aI h;have hi:∀ (i t o:Nat),[(5,0),(49,1),(9,5),(3,6),(3,7),(70,8)][i]?=some (t,o)->∃ fuel y,DataW.trod enc Tryz.prog W aq fA held fuel t ((cs.drop o).take (Tryz.prog.cellsOf t))=some y:=Lk (P:=Tryz.prog) ar hi;rw[show Tryz.prog.cellsOf 83=9 by kernel_rfl]at aE;obtain⟨nJ,fm,fj,oX,zn,AU,EF,Lm,atx,rfl⟩:=aie aE;obtain⟨_,_,ay⟩:=hi 0 _ _ rfl;obtain⟨_,_,U⟩:=hi 1 _ _ rfl;obtain⟨_,_,aa⟩:=hi 2 _ _ rfl;obtain⟨_,_,af⟩:=hi 3 _ _ rfl;obtain⟨_,_,aN⟩:=hi 4 _ _ rfl;obtain⟨_,_,bq⟩:=hi 5 _ _ rfl;rw[show Tryz.prog.cellsOf 5=1 by kernel_rfl]at ay;rw[show Tryz.prog.cellsOf 49=4 by kernel_rfl]at U;rw[show Tryz.prog.cellsOf 9=1 by kernel_rfl]at aa;rw[show Tryz.prog.cellsOf 3=1 by kernel_rfl]at af aN;rw[show Tryz.prog.cellsOf 70=1 by kernel_rfl]at bq;obtain⟨k,b',P6⟩:=CL (show Tryz.prog.underlying 5=some (.int .u8) by kernel_rfl) ay;obtain⟨a,b,c,d,aC,h4,kq,jz,j6⟩:=aij U;obtain⟨s,aA,-,ws⟩:=KW (show Tryz.prog.underlying 9=some .string by kernel_rfl) aa;obtain⟨lo,bx,wl⟩:=CL (show Tryz.prog.underlying 3=some (.int .i64) by kernel_rfl) af;obtain⟨dx,cU,ail⟩:=CL (show Tryz.prog.underlying 3=some (.int .i64) by kernel_rfl) aN;obtain⟨ml,kn,k7,aS,e8,mS,ev,l0⟩:=aic bq;simp at b' aC aA bx cU e8;obtain⟨P7,P8,aim,ain⟩:=aC;subst b' P7 P8 aim ain aA bx cU e8;exact⟨⟨k,a,b,c,d,s,lo,dx,ml,kn,k7,aS⟩,rfl,wf_u8 P6,h4,kq,jz,j6,wf_i64 wl,wf_i64 ail,mS,l0,by unfold maxLen at ws;omega⟩
def aio{x:DataW H×List MemPlace}(h:DataW.trod enc Tryz.prog W aq fA held fuel 28 cs=some x):∃ t:eH,cs=t.cells/\EI (rk W) t:=by obtain⟨cT,aI,ar⟩:∃ cT,Tryz.prog.underlying 28=some (.struct cT)/\cT.toList.map (λf=>(f.type,f.offset))=[(26,0),(3,1)]:=HK (by kernel_rfl);obtain⟨aE,hi⟩:=Ll aI h;have hi:∀ (i t o:Nat),[(26,0),(3,1)][i]?=some (t,o)->∃ fuel y,DataW.trod enc Tryz.prog W aq fA held fuel t ((cs.drop o).take (Tryz.prog.cellsOf t))=some y:=Lk (P:=Tryz.prog) ar hi;rw[show Tryz.prog.cellsOf 28=2 by kernel_rfl]at aE;obtain⟨nJ,fm,rfl⟩:=aih aE;obtain⟨_,_,ay⟩:=hi 0 _ _ rfl;obtain⟨_,_,U⟩:=hi 1 _ _ rfl;rw[show Tryz.prog.cellsOf 26=1 by kernel_rfl]at ay;rw[show Tryz.prog.cellsOf 3=1 by kernel_rfl]at U;obtain⟨a,n,c,l,b',mS,az,bw,-,-⟩:=P4 (f:=bh.cells) (size:=9) (by decide) bh.dc (HJ (rk W)) (show Tryz.prog.underlying 26=some (.slice 83) by kernel_rfl) (by kernel_rfl) (λfuel cs x h=>aik h) ay;obtain⟨r,aC,wr⟩:=CL (show Tryz.prog.underlying 3=some (.int .i64) by kernel_rfl) U;simp at b' aC;subst b' aC;exact⟨⟨l,a,n,c,r⟩,rfl,mS,bw,wf_i64 wr⟩
def aip{x:DataW H×List MemPlace}(h:DataW.trod enc Tryz.prog W aq fA held fuel 58 cs=some x):∃ d:bD,cs=d.cells/\P2 (rk W) d:=by obtain⟨cT,aI,ar⟩:∃ cT,Tryz.prog.underlying 58=some (.struct cT)/\cT.toList.map (λf=>(f.type,f.offset))=[(9,0),(28,1)]:=HK (by kernel_rfl);obtain⟨aE,hi⟩:=Ll aI h;have hi:∀ (i t o:Nat),[(9,0),(28,1)][i]?=some (t,o)->∃ fuel y,DataW.trod enc Tryz.prog W aq fA held fuel t ((cs.drop o).take (Tryz.prog.cellsOf t))=some y:=Lk (P:=Tryz.prog) ar hi;rw[show Tryz.prog.cellsOf 58=3 by kernel_rfl]at aE;obtain⟨nJ,fm,fj,rfl⟩:=aif aE;obtain⟨_,_,ay⟩:=hi 0 _ _ rfl;obtain⟨_,_,U⟩:=hi 1 _ _ rfl;rw[show Tryz.prog.cellsOf 9=1 by kernel_rfl]at ay;rw[show Tryz.prog.cellsOf 28=2 by kernel_rfl]at U;obtain⟨s,b',-,ws⟩:=KW (show Tryz.prog.underlying 9=some .string by kernel_rfl) ay;obtain⟨t,aC,aI⟩:=aio U;simp[eH.cells]at b' aC;obtain⟨P7,P8⟩:=aC;subst b' P7 P8;exact⟨⟨s,t⟩,rfl,by unfold maxLen at ws;exact ws,aI⟩
def aiq{x:DataW H×List MemPlace}(h:DataW.trod enc Tryz.prog W aq fA held fuel 24 cs=some x):∃ g:cA,cs=[.slice g.a g.n g.c]/\zo (rk W) g:=by obtain⟨cT,aI,ar⟩:∃ cT,Tryz.prog.underlying 24=some (.struct cT)/\cT.toList.map (λf=>(f.type,f.offset))=[(22,0)]:=HK (by kernel_rfl);obtain⟨aE,hi⟩:=Ll aI h;have hi:∀ (i t o:Nat),[(22,0)][i]?=some (t,o)->∃ fuel y,DataW.trod enc Tryz.prog W aq fA held fuel t ((cs.drop o).take (Tryz.prog.cellsOf t))=some y:=Lk (P:=Tryz.prog) ar hi;rw[show Tryz.prog.cellsOf 24=1 by kernel_rfl]at aE;obtain⟨nJ,rfl⟩:=aii aE;obtain⟨_,_,ay⟩:=hi 0 _ _ rfl;rw[show Tryz.prog.cellsOf 22=1 by kernel_rfl]at ay;obtain⟨a,n,c,l,b',mS,az,bw,-,-⟩:=P4 (f:=bD.cells) (size:=3) (by decide) bD.dc (P2 (rk W)) (show Tryz.prog.underlying 22=some (.slice 58) by kernel_rfl) (by kernel_rfl) (λfuel cs x h=>aip h) ay;exact⟨⟨l,a,n,c⟩,b',mS,bw⟩
def air{w:World}{r:Reach}{t:Nat}(aI:P.underlying t=some (.struct cT))(h:Value.okWide P w r aq t v):∃ cs,v=.agg cs:=by obtain⟨cs,U,-⟩:=Go.WideShapes.okWide_struct aI h;exact⟨cs,U⟩
def XH{d:DataW H}(h:DataW.Trod enc Tryz.prog W 0 (λ_=>true) true 24 v d p)(aj:Value.okWide Tryz.prog W .any aq 24 v):∃ g:cA,v=g.val/\zo (rk W) g:=by obtain⟨cT,aI,-⟩:=HK (P:=Tryz.prog) (t:=24) (l:=[(22,0)]) (by kernel_rfl);obtain⟨cs,rfl⟩:=air aI aj;obtain⟨fuel,ar⟩:=h;obtain⟨g,e,aB⟩:=aiq ar;refine⟨g,?_,aB⟩;have a':cs.toList=[.slice g.a g.n g.c]:=e;cases cs;simp only at a';subst a';rfl
end
def P9{H:Type}{enc:TypeId×Value->H}{P:Program}(aE:laidOutB P=true){W kv:World}(ae:CI W kv):∀ {ts:List TypeId} {vs:List Value} {ds:List (DataW H)} {ps:List MemPlace},(∀ t∈ts,P.readableRec t=true/\t<P.types.size) -> DataW.TrodAll enc P W 0 (λ_=>true) true ts vs ds ps->(∀ p∈ps,p.block<W.heap.size)->∀ fA:Nat->Bool,(∀ p∈ps,fA p.block=true)->DataW.TrodAll enc P kv 0 fA true ts vs ds ps
 |[],[],[],_,_,h,_,_,_=>h
 |t::ts,v::vs,d::ds,_,aI,⟨p,q,U,aa,e⟩,a0,fA,ax=>by
  subst e;refine⟨p,q,?_,?_,rfl⟩
  ·refine Go.WideElems.Trod_stays aE (aI t (.head _)).1 (aI t (.head _)).2 U (λx ab=>?_) (λx ab=>ax x (dV.2 (.inl ab)));have bZ:=a0 x (dV.2 (.inl ab));cases x with
   |cell b o=>exact World.cell?_of_block (w:=W) (ae.dS b bZ)| map b=>exact ae.dS b bZ
  ·exact P9 aE ae (λt h=>aI t (.tail _ h)) aa (λx ab=>a0 x (dV.2 (.inr ab))) fA (λx ab=>ax x (dV.2 (.inr ab)))
def XI:mapsRowed Tryz.prog=true:=by kernel_rfl
def XJ:Tryz.prog.stopsHeard=true:=by kernel_rfl
def XK:Tryz.prog.mayEnter=true:=by kernel_rfl
section
variable{H:Type}{enc:TypeId×Value->H}
def Ln{d:DataW H}(h:DataW.Trod enc Tryz.prog W 0 (λ_=>true) true 3 v d p)(aj:Value.okWide Tryz.prog W .any aq 3 v):∃ i:Int,v=.int .i64 i/\jm i:=by
 have aI:Tryz.prog.underlying 3=some (.int .i64):=by kernel_rfl
 obtain⟨n,rfl⟩:=Go.WideShapes.okWide_int aI aj;obtain⟨fuel,ar⟩:=h;obtain⟨i,b',hw⟩:=CL aI ar;have aC:[Value.int .i64 n]=[Value.int .i64 i]:=b';simp only[zb,Value.int.injEq,true_and,and_true]at aC;subst aC;exact⟨n,rfl,wf_i64 hw⟩
def XL{d:DataW H}(h:DataW.Trod enc Tryz.prog W 0 (λ_=>true) true 9 v d p)(aj:Value.okWide Tryz.prog W .any aq 9 v):∃ s:ByteArray,v=.string s/\s.size<=9223372036854775807:=by
 have aI:Tryz.prog.underlying 9=some .string:=by kernel_rfl
 obtain⟨n,rfl⟩:=Go.WideShapes.okWide_string aI aj;obtain⟨fuel,ar⟩:=h;obtain⟨i,b',-,hw⟩:=KW aI ar;have aC:[Value.string n]=[Value.string i]:=b';simp only[zb,Value.string.injEq,and_true]at aC;subst aC;exact⟨n,rfl,by unfold maxLen at hw;exact hw⟩
end
open Go Go.Proofs Go.ChangeShapes
section
variable{H:Type}{enc:TypeId×Value->H}{P:Program}{w:World}{aq:Nat}{spare:Nat->Bool}{held:Bool}
def ais{t fw XM t3 t4:TypeId}{ds:List (DataW H)}{ps:List MemPlace}(h:DataW.TrodAll enc P w aq spare held [t,fw,XM,t3,t4] args.toList ds ps) :
  ∃ v nK Lo AV v4 d zq Lp d3 d4 p hc Lq uV CJ,args=#[v,nK,Lo,AV,v4]/\ds=[d,zq,Lp,d3,d4]/\ps=p++hc++Lq++uV++CJ/\DataW.Trod enc P w aq spare held t v d p/\DataW.Trod enc P w aq spare held fw nK zq hc/\DataW.Trod enc P w aq spare held XM Lo Lp Lq/\DataW.Trod enc P w aq spare held t3 AV d3 uV/\DataW.Trod enc P w aq spare held t4 v4 d4 CJ:=by
 obtain⟨v,vs,d,aty,p,q,m3,rfl,rfl,ah,tm⟩:=trodAll_cons h;obtain⟨nK,tc,zq,atz,hc,fG,rfl,rfl,rfl,iD,ait⟩:=trodAll_cons tm;obtain⟨Lo,atA,Lp,atB,Lq,atC,rfl,rfl,rfl,aiu,aiv⟩:=trodAll_cons ait;obtain⟨AV,atD,d3,atE,uV,gS,rfl,rfl,rfl,xJ,aiw⟩:=trodAll_cons aiv;obtain⟨v4,atF,d4,atG,CJ,iq,rfl,rfl,rfl,P1,aix⟩:=trodAll_cons aiw;obtain⟨rfl,rfl,rfl⟩:=trodAll_nil aix;exact⟨v,nK,Lo,AV,v4,d,zq,Lp,d3,d4,p,hc,Lq,uV,CJ,by cases args;simp_all,rfl,by simp,ah,iD,aiu,xJ,P1⟩
end
structure pP where
 d:bh
 bd:List Nat
structure bo where
 n:Nat
 av:Nat
 ao:Nat
structure bC where
 aG:Nat
 pl:Nat
 bu:Nat
 av:Nat
 n:Nat
structure fJ where
 kn:Nat->Nat->bo
 op:List bC
 aU:Nat
structure bm where
 ns:List pP
 s:ByteArray
 aq:Nat
def Qa:bh:=⟨0,0,0,0,0,⟨#[]⟩,0,0,none,0,0,[]⟩
def bm.ai(P:bm)(k:Nat):pP:=P.ns.getD k ⟨Qa,[]⟩
def hC:bo:=⟨0,0,0⟩
def iu(av n:Nat):bo:=⟨min n 65537,av,3⟩
def hR:bo:=⟨0,0,2⟩
def jS(d:bh)(b:Nat):Bool:=([d.e2,d.s1,d.s2,d.eK].getD (b/64) 0).toNat.testBit (b%64)
def preB(s t:ByteArray)(ai:Nat):Bool:=decide (ai+t.size<=s.size)&&decide (s.extract ai (ai+t.size)=t)
def ib(P:bm)(k ai:Nat):Option bo:=
 let d:=(P.ai k).d
 bif decide (d.k=0)then some (iu ai 0)else
 bif decide (d.k=1)then(match P.s.data[ai]? with
  |some b=>bif jS d b.toNat then some (iu (ai+1) 0)else some hR| none=>some hR)else
 bif decide (d.k=2)then(bif preB P.s d.t ai then some (iu (ai+d.t.size) 0)else some hR)else
 bif decide (d.k=6)&&decide (d.hi=0)then some (iu ai 0)else none
def bA(P:bm)(f:bC):Nat×Nat:=
 let a:=P.ai f.aG
 bif decide (a.d.k=4)then(a.bd.getD f.bu 0,f.av)else
 bif decide (a.d.k=5)then(a.bd.getD f.bu 0,f.pl)else(a.bd.getD 0 0,f.av)
def bC.add(f:bC)(c:bo):bC:=⟨f.aG,f.pl,f.bu+1,c.av,min (f.n+c.n) 65537⟩
inductive EJ where
 |loop| on (f:bC) (c:bo) (done:Bool)
def fQ(P:bm)(f:bC)(c:bo):EJ:=
 let a:=P.ai f.aG
 bif decide (a.d.k<4)then .on f c true else
 bif decide (a.d.k=4)then(bif Nat.beq c.ao 2 then .on f c true else .on (f.add c) (iu c.av (min (f.n+c.n) 65537)) (decide (f.bu+1=a.bd.length)))else
 bif decide (a.d.k=5)then(bif Nat.beq c.ao 3 then .on f c true else .on { f with bu:=f.bu+1 } c (decide (f.bu+1=a.bd.length)))else
 bif decide (a.d.k=6)then
  (bif Nat.beq c.ao 2 then(bif decide ((f.bu:Int)<a.d.lo)then .on f c true else .on f (iu f.av f.n) true)
   else bif decide (a.d.hi=-1)&&decide (c.av=f.av)then .loop else .on (f.add c) (iu c.av (min (f.n+c.n) 65537)) (decide (((f.bu+1:Nat):Int)=a.d.hi)))else
 bif decide (a.d.k=7)then(bif Nat.beq c.ao 3 then .on f (iu f.pl 0) true else .on f c true)else
 bif decide (a.d.k=8)then(bif Nat.beq c.ao 2 then .on f (iu f.pl 0) true else .on f hR true)else
 (bif Nat.beq c.ao 3 then .on f (iu c.av (c.n+1)) true else .on f c true)
inductive nL where
 |begin(k ai:Nat)| hand (c:bo)
inductive zr where
 |err(e:Nat)| ok (c:bo) (S:fJ)
inductive uX where
 |stop(e:zr)| more (q:nL) (S:fJ)
def hn(kn:Nat->Nat->bo)(k p:Nat)(c:bo):Nat->Nat->bo:=λcO hc=>bif Nat.beq cO k&&Nat.beq hc p then c else kn cO hc
def kT(P:bm)(c:bo)(S:fJ):uX:=match S.op with
 |[]=>.stop (.err 9)
 |f::au=>match au with
  |[]=>.stop (.ok c { S with kn:=hn S.kn f.aG (f.pl-P.aq) c,op:=[] })| r::bj=>.more (.hand c) { S with kn:=hn S.kn f.aG (f.pl-P.aq) c,op:=r::bj }
def iv(P:bm)(S:fJ):uX:=match S.op with
 |[]=>.stop (.err 9)
 |f::_=>
  let c:=S.kn (bA P f).1 ((bA P f).2-P.aq)
  bif Nat.beq c.ao 0 then .more (.begin (bA P f).1 (bA P f).2) S else
  bif Nat.beq c.ao 1 then .stop (.err 1)else .more (.hand c) S
def dC(P:bm)(k ai:Nat)(S:fJ):fJ:=
 ⟨hn S.kn k (ai-P.aq) { S.kn k (ai-P.aq)with ao:=1 },⟨k,ai,0,ai,0⟩::S.op,S.aU+1⟩
def tG(P:bm)(k ai:Nat)(S:fJ):uX:=match ib P k ai with
 |some c=>kT P c (dC P k ai S)| none=>iv P (dC P k ai S)
def kw(P:bm)(c:bo)(S:fJ):uX:=match S.op with
 |[]=>.stop (.err 9)
 |f::au=>match fQ P f c with
  | .loop=>.stop (.err 2)| .on f' c' done=>bif done then kT P c' ⟨S.kn,f'::au,S.aU+1⟩else iv P ⟨S.kn,f'::au,S.aU+1⟩
def pQ(P:bm):nL->fJ->uX
 | .begin k a,S=>tG P k a S| .hand c,S=>kw P c S
def ho(P:bm):Nat->nL->fJ->zr
 |0,_,_=>.err 0
 |n+1,q,S=>match pQ P q S with
  | .stop e=>e| .more fG e5=>ho P n fG e5
structure Lr(P:bm)(a:pP):Prop where
 k:0<=a.d.k/\a.d.k<10
 bd:∀ x∈a.bd,x<P.ns.length
 many:a.d.k=4\/a.d.k=5->0<a.bd.length
 one:a.d.k=3\/6<=a.d.k->a.bd.length=1
 kR:a.d.k=6->0<=a.d.lo/\a.d.lo<=99/\(a.d.hi=-1\/(a.d.lo<=a.d.hi/\a.d.hi<=99))
 len:a.bd.length<=1024
structure iw(P:bm):Prop where
 ns:∀ a∈P.ns,Lr P a
 aq:P.aq<=P.s.size
 size:P.s.size<=4096
structure kU(P:bm)(pl:Nat)(c:bo):Prop where
 ao:c.ao<=3
 m:c.ao=3->pl<=c.av/\c.av<=P.s.size/\c.n<=65537
 f:c.ao≠3->c.n=0/\c.av=0
structure qy(P:bm)(f:bC):Prop where
 aG:f.aG<P.ns.length
 lo:P.aq<=f.pl
 pl:f.pl<=f.av
 av:f.av<=P.s.size
 n:f.n<=65537
 k:3<=(P.ai f.aG).d.k
 many:(P.ai f.aG).d.k=4\/(P.ai f.aG).d.k=5->f.bu<(P.ai f.aG).bd.length
 kR:(P.ai f.aG).d.k=6->(P.ai f.aG).d.hi≠0/\((P.ai f.aG).d.hi=-1->f.bu<=f.av-f.pl)/\((P.ai f.aG).d.hi≠-1->(f.bu:Int)<(P.ai f.aG).d.hi)
 one:(P.ai f.aG).d.k=3\/7<=(P.ai f.aG).d.k->f.bu=0/\f.av=f.pl
def zs(P:bm):List bC->Prop
 |[]=>True| [_]=>True| f::r::bj=>bA P r=(f.aG,f.pl)/\zs P (r::bj)
structure kV(P:bm)(S:fJ):Prop where
 op:∀ f∈S.op,qy P f
 kn:∀ k p,kU P (P.aq+p) (S.kn k p)
 chain:zs P S.op
def cn(c:bo):Prop:=c.ao=2\/c.ao=3
def l1(P:bm)(S:fJ):nL->Prop
 | .begin k a=>k<P.ns.length/\P.aq<=a/\a<=P.s.size/\(∀ f au,S.op=f::au->bA P f=(k,a))/\(S.kn k (a-P.aq)).ao=0| .hand c=>∃ f au,S.op=f::au/\cn c/\kU P (bA P f).2 c
def zt(P:bm):uX->Prop
 | .stop (.err e)=>e=1\/e=2| .stop (.ok c S)=>cn c/\kV P S| .more q S=>kV P S/\l1 P S q
def bm.rm{P:bm}(h:iw P)(ae:k<P.ns.length):Lr P (P.ai k):=by
 have:P.ai k=P.ns[k]:=by simp[bm.ai,dB,ae]
 rw[this];exact h.ns _ (dr ae)
def XN{P:bm}{kn:Nat->Nat->bo}(h:∀ k p,kU P (P.aq+p) (kn k p)){p:Nat}{c:bo}(aJ:kU P (P.aq+p) c):∀ cO hc,kU P (P.aq+hc) (hn kn k p c cO hc):=by
 intro cO hc;unfold hn;cases ag:Nat.beq cO k&&Nat.beq hc p with
 |false=>exact h cO hc| true=>simp only[ct,Nat.beq_eq]at ag;obtain⟨rfl,rfl⟩:=ag;exact aJ
def EK{P:bm}(h:iw P){f:bC}(ar:qy P f):(bA P f).1<P.ns.length/\P.aq<=(bA P f).2/\(bA P f).2<=P.s.size/\f.pl<=(bA P f).2:=by
 have aH:=bm.rm h ar.aG;have U:=ar.lo;have aa:=ar.pl;have af:=ar.av;have ae:=ar.k;have get:∀ i,i<(P.ai f.aG).bd.length->(P.ai f.aG).bd.getD i 0<P.ns.length:=λi hi=>by
  have:(P.ai f.aG).bd.getD i 0=(P.ai f.aG).bd[i]:=by simp[dB,hi]
  rw[this];exact aH.bd _ (dr hi)
 unfold bA;by_cases aN:(P.ai f.aG).d.k=4
 ·simp only[aN,zc,a4];exact⟨get _ (ar.many (.inl aN)),by omega,af,aa⟩
 ·by_cases bq:(P.ai f.aG).d.k=5
  ·simp only[bG aN,dF bq,a4,aQ];refine⟨get _ (ar.many (.inr bq)),by omega,by omega,by omega⟩
  ·simp only[bG aN,bG bq,aQ];have nE:(P.ai f.aG).bd.length=1:=aH.one (by omega);exact⟨get _ (by omega),by omega,af,aa⟩
structure aiy(P:bm)(S:fJ)(f:bC)(au:List bC):Prop where
 op:S.op=f::au
 cT:∀ f∈au,qy P f
 kn:∀ k p,kU P (P.aq+p) (S.kn k p)
 chain:zs P (f::au)
 lo:P.aq<=f.pl
def XO{P:bm}{S:fJ}{f:bC}{au:List bC}(h:aiy P S f au){c:bo}(ah:cn c)(kS:kU P f.pl c):zt P (kT P c S):=by
 have ae:=XN h.kn (k:=f.aG) (p:=f.pl-P.aq) (c:=c) (by rw[oc h.lo];exact kS);have jr:=h.chain;have jJ:=h.cT;unfold kT;rw[h.op];cases au with
 |nil=>exact⟨ah,⟨λf ar=>(by cases ar),ae,trivial⟩⟩| cons r bj=>exact⟨⟨λf' sg=>jJ f' sg,ae,jr.2⟩,r,bj,rfl,ah,by rw[jr.1];exact kS⟩
def XP{P:bm}(h:iw P){S:fJ}(c2:kV P S){f:bC}{au:List bC}(cX:S.op=f::au):zt P (iv P S):=by
 have ar:=c2.op f (by rw[cX];exact .head _);obtain⟨gZ,hQ,tF,AW⟩:=EK h ar;unfold iv;rw[cX];simp only;have kS:=c2.kn (bA P f).1 ((bA P f).2-P.aq);rw[oc hQ]at kS;generalize aJ:S.kn (bA P f).1 ((bA P f).2-P.aq)=c at kS;cases ay:Nat.beq c.ao 0 with
 |true=>
  rw[a4];refine⟨c2,gZ,hQ,tF,λf' qW e=>?_,?_⟩;·rw[cX]at e;cases e;rfl
  ·rw[aJ];exact cj ay
 |false=>
  rw[aQ];cases U:Nat.beq c.ao 1 with
  |true=>rw[a4];exact .inl rfl
  |false=>
   rw[aQ];refine⟨c2,f,au,cX,?_,kS⟩;have b':c.ao≠0:=λe=>by rw[e]at ay;cases ay
   have aC:c.ao≠1:=λe=>by rw[e]at U;cases U
   have:=kS.ao;unfold cn;omega
def xK{P:bm}{av n:Nat}(U:pl<=av)(aa:av<=P.s.size):cn (iu av n)/\kU P pl (iu av n):=
 ⟨.inr rfl,b2 3,λ_=>⟨U,aa,AL _ _⟩,λh=>absurd rfl h⟩
def Ls{P:bm}:cn hR/\kU P pl hR:=⟨.inl rfl,by decide,λh=>(by cases h),λ_=>⟨rfl,rfl⟩⟩
def Lt{P:bm}(aH:a<=P.s.size){c:bo}(h:ib P k a=some c):cn c/\kU P a c:=by
 unfold ib at h;simp only at h;by_cases ay:(P.ai k).d.k=0
 ·simp only[dF ay,a4,hq]at h;rw[<-h];exact xK (b2 _) aH
 by_cases U:(P.ai k).d.k=1
 ·simp only[bG ay,dF U,a4,aQ]at h;rcases Hn a P.s.data.size with a0 | cE
  ·rw[DX a0]at h;simp only at h;cases ag:jS (P.ai k).d (P.s.data[a]).toNat with
   |true=>rw[ag]at h;simp only[a4,hq]at h;rw[<-h];exact xK (Nat.le_succ _) a0| false=>rw[ag]at h;simp only[aQ,hq]at h;rw[<-h];exact Ls
  ·rw[Pz cE]at h;simp only[hq]at h;rw[<-h];exact Ls
 by_cases aa:(P.ai k).d.k=2
 ·simp only[bG ay,bG U,dF aa,a4,aQ]at h;cases ag:preB P.s (P.ai k).d.t a with
  |true=>
   rw[ag]at h;simp only[a4,hq]at h;rw[<-h];have:a+(P.ai k).d.t.size<=P.s.size:=by unfold preB at ag;simp only[ct,eY]at ag;exact ag.1
   exact xK (Nat.le_add_right _ _) this
  |false=>rw[ag]at h;simp only[aQ,hq]at h;rw[<-h];exact Ls
 simp only[bG ay,bG U,bG aa,aQ]at h;cases ag:decide ((P.ai k).d.k=6)&&decide ((P.ai k).d.hi=0)with
 |true=>rw[ag]at h;simp only[a4,hq]at h;rw[<-h];exact xK (b2 _) aH| false=>rw[ag]at h;cases h
def Qb{P:bm}(h:ib P k a=none):(P.ai k).d.k≠0/\(P.ai k).d.k≠1/\(P.ai k).d.k≠2/\((P.ai k).d.k=6->(P.ai k).d.hi≠0):=by
 unfold ib at h;simp only at h;by_cases ay:(P.ai k).d.k=0
 ·simp only[dF ay,a4]at h;cases h
 by_cases U:(P.ai k).d.k=1
 ·simp only[bG ay,dF U,a4,aQ]at h;split at h
  ·rename_i b ag;cases aR:jS (P.ai k).d b.toNat<;>rw[aR]at h<;>cases h
  ·cases h
 by_cases aa:(P.ai k).d.k=2
 ·simp only[bG ay,bG U,dF aa,a4,aQ]at h;cases aR:preB P.s (P.ai k).d.t a<;>rw[aR]at h<;>cases h
 simp only[bG ay,bG U,bG aa,aQ]at h;refine⟨ay,U,aa,λbp aR=>?_⟩;simp only[dF bp,dF aR,Bool.and_self,a4]at h;cases h
def XQ{P:bm}{S:fJ}(c2:kV P S)(ag:l1 P S (.begin k a)):∀ cO hc,kU P (P.aq+hc) ((dC P k a S).kn cO hc):=by obtain⟨b1,ch,b9,cK,eT⟩:=ag;refine XN c2.kn ?_;have aJ:=c2.kn k (a-P.aq);obtain⟨oZ,v'⟩:=aJ.f (by rw[eT];decide);exact⟨bP rfl,(λh=>by cases h),λ_=>⟨oZ,v'⟩⟩
def Qc{P:bm}{S:fJ}(c2:kV P S)(ag:l1 P S (.begin k a)):zs P (dC P k a S).op:=by
 obtain⟨b1,ch,b9,cK,eT⟩:=ag;cases cX:S.op with
 |nil=>simp only[dC,cX];trivial| cons r bj=>simp only[dC,cX];refine⟨cK r bj cX,?_⟩;have:=c2.chain;rwa [cX]at this
def aiz{P:bm}(h:iw P){S:fJ}(c2:kV P S)(ag:l1 P S (.begin k a)):zt P (tG P k a S):=by
 have ht:=ag;obtain⟨b1,ch,b9,cK,eT⟩:=ht;have ev:=XQ c2 ag;have jr:=Qc c2 ag;unfold tG;cases az:ib P k a with
 |some c=>obtain⟨d1,d2⟩:=Lt b9 az;exact XO (f:=⟨k,a,0,a,0⟩) (au:=S.op) ⟨rfl,c2.op,ev,jr,ch⟩ d1 d2
 |none=>
  obtain⟨n0,gZ,hQ,uY⟩:=Qb az;have aH:=bm.rm h b1;refine XP h (f:=⟨k,a,0,a,0⟩) (au:=S.op) ⟨λf ar=>?_,ev,jr⟩ rfl;rcases eu.1 ar with rfl | ar
  ·exact⟨b1,ch,b2 _,b9,bF _,by have:=aH.k;show 3<=(P.ai k).d.k;omega,λe=>aH.many e,λe=>⟨uY e,λ_=>bF _,λaA=>by
    have a':(P.ai k).d.k=6:=e;have eZ:¬ (P.ai k).d.hi=-1:=aA;have:=aH.kR a';have:=uY a';show((0:Nat):Int)<(P.ai k).d.hi;omega⟩,λ_=>⟨rfl,rfl⟩⟩
  ·exact c2.op f ar
structure XR(P:bm)(f f':bC)(c':bo)(done:Bool):Prop where
 same:f'.aG=f.aG/\f'.pl=f.pl
 Qd:done=true->cn c'/\kU P f.pl c'
 on:done=false->qy P f'
def EL{P:bm}(h:iw P){f:bC}(ar:qy P f){c:bo}(ah:cn c)(aJ:kU P (bA P f).2 c){f':bC}{c':bo}{done:Bool}(aR:fQ P f c=.on f' c' done):XR P f f' c' done:=by
 have aH:=bm.rm h ar.aG;obtain⟨gZ,hQ,tF,AW⟩:=EK h ar;have bz:kU P f.pl c:=⟨aJ.ao,λe=>by
  have:=aJ.m e;omega,aJ.f⟩
 have af:=ar.k;have uN:=ar.pl;have ix:=ar.av;have az:=ar.n;have dg:=ar.lo;have on:∀ {x:bC} {y:bo} {z:Bool},EJ.on x y z=.on f' c' done->f'=x/\c'=y/\done=z:=λe=>by cases e;exact⟨rfl,rfl,rfl⟩
 have fin:∀ {x:bC} {y:bo},x.aG=f.aG/\x.pl=f.pl->cn y/\kU P f.pl y->XR P f x y true:=λaC aA=>⟨aC,λ_=>aA,λe=>by cases e⟩;unfold fQ at aR;simp only at aR;by_cases g0:(P.ai f.aG).d.k<4
 ·simp only[dF g0,a4]at aR;obtain⟨rfl,rfl,rfl⟩:=on aR;exact fin ⟨rfl,rfl⟩ ⟨ah,bz⟩
 by_cases st:(P.ai f.aG).d.k=4
 ·have bx:decide ((P.ai f.aG).d.k<4)=false:=bG g0;have gf:(bA P f).2=f.av:=by simp[bA,st]
  rw[bx]at aR;simp only[dF st,a4,aQ]at aR;cases aa:Nat.beq c.ao 2 with
  |true=>rw[aa,a4]at aR;obtain⟨rfl,rfl,rfl⟩:=on aR;exact fin ⟨rfl,rfl⟩ ⟨ah,bz⟩
  |false=>
   rw[aa,aQ]at aR;obtain⟨rfl,rfl,rfl⟩:=on aR;have hm:c.ao=3:=by
    rcases ah with e | e;·rw[e]at aa;cases aa
    ·exact e
   obtain⟨dI,m2,CA⟩:=aJ.m hm;rw[gf]at dI;refine⟨⟨rfl,rfl⟩,λ_=>xK (by omega) m2,λe=>⟨ar.aG,dg,by show f.pl<=c.av;omega,m2,AL _ _,af,λ_=>?_,λgg=>?_,λaC=>?_⟩⟩;·have:=ar.many (.inl st);have:=cu e;show f.bu+1<(P.ai f.aG).bd.length;omega
   ·have aiA:(P.ai f.aG).d.k=6:=gg;omega
   ·have dO:(P.ai f.aG).d.k=3\/7<=(P.ai f.aG).d.k:=aC;omega
 by_cases wa:(P.ai f.aG).d.k=5
 ·have bx:decide ((P.ai f.aG).d.k<4)=false:=bG g0;have cU:decide ((P.ai f.aG).d.k=4)=false:=bG st;rw[bx,cU]at aR;simp only[dF wa,a4,aQ]at aR;cases aa:Nat.beq c.ao 3 with
  |true=>rw[aa,a4]at aR;obtain⟨rfl,rfl,rfl⟩:=on aR;exact fin ⟨rfl,rfl⟩ ⟨ah,bz⟩
  |false=>
   rw[aa,aQ]at aR;obtain⟨rfl,rfl,rfl⟩:=on aR;refine⟨⟨rfl,rfl⟩,λ_=>⟨ah,bz⟩,λe=>⟨ar.aG,dg,uN,ix,az,af,λ_=>?_,λgg=>?_,λaC=>?_⟩⟩;·have:=ar.many (.inr wa);have:=cu e;show f.bu+1<(P.ai f.aG).bd.length;omega
   ·have aiA:(P.ai f.aG).d.k=6:=gg;omega
   ·have dO:(P.ai f.aG).d.k=3\/7<=(P.ai f.aG).d.k:=aC;omega
 by_cases wb:(P.ai f.aG).d.k=6
 ·have bx:decide ((P.ai f.aG).d.k<4)=false:=bG g0;have cU:decide ((P.ai f.aG).d.k=4)=false:=bG st;have e8:decide ((P.ai f.aG).d.k=5)=false:=bG wa;have gf:(bA P f).2=f.av:=by simp[bA,wb]
  rw[bx,cU,e8]at aR;simp only[dF wb,a4,aQ]at aR;cases aa:Nat.beq c.ao 2 with
  |true=>
   rw[aa,a4]at aR;cases aN:decide ((f.bu:Int)<(P.ai f.aG).d.lo)with
   |true=>rw[aN,a4]at aR;obtain⟨rfl,rfl,rfl⟩:=on aR;exact fin ⟨rfl,rfl⟩ ⟨ah,bz⟩
   |false=>rw[aN,aQ]at aR;obtain⟨rfl,rfl,rfl⟩:=on aR;exact fin ⟨rfl,rfl⟩ (xK uN ix)
  |false=>
   rw[aa,aQ]at aR;have hm:c.ao=3:=by
    rcases ah with e | e;·rw[e]at aa;cases aa
    ·exact e
   obtain⟨dI,m2,CA⟩:=aJ.m hm;rw[gf]at dI;cases aN:decide ((P.ai f.aG).d.hi=-1)&&decide (c.av=f.av)with
   |true=>rw[aN,a4]at aR;cases aR
   |false=>
    rw[aN,aQ]at aR;obtain⟨rfl,rfl,rfl⟩:=on aR;obtain⟨hS,fP,hT⟩:=ar.kR wb;refine⟨⟨rfl,rfl⟩,λ_=>xK (by omega) m2,λe=>⟨ar.aG,dg,by show f.pl<=c.av;omega,m2,AL _ _,af,λaC=>?_,λ_=>⟨hS,λaC=>?_,λaC=>?_⟩,λaC=>?_⟩⟩;·have dO:(P.ai f.aG).d.k=4\/(P.ai f.aG).d.k=5:=aC;omega
    ·have dO:(P.ai f.aG).d.hi=-1:=aC;have:=fP dO;have bM:¬ c.av=f.av:=λaA=>by simp[dO,aA]at aN
     show f.bu+1<=c.av-f.pl;omega
    ·have dO:(P.ai f.aG).d.hi≠-1:=aC;have:=hT dO;have:=cu e;show((f.bu+1:Nat):Int)<(P.ai f.aG).d.hi;omega
    ·have dO:(P.ai f.aG).d.k=3\/7<=(P.ai f.aG).d.k:=aC;omega
 have bx:decide ((P.ai f.aG).d.k<4)=false:=bG g0;have cU:decide ((P.ai f.aG).d.k=4)=false:=bG st;have e8:decide ((P.ai f.aG).d.k=5)=false:=bG wa;have gg:decide ((P.ai f.aG).d.k=6)=false:=bG wb;rw[bx,cU,e8,gg]at aR;simp only[aQ]at aR;have Lu:f.pl<=P.s.size:=by omega
 cases ec:decide ((P.ai f.aG).d.k=7)with
 |true=>
  rw[ec,a4]at aR;cases aa:Nat.beq c.ao 3<;>rw[aa]at aR<;>simp only[a4,aQ]at aR<;>obtain⟨rfl,rfl,rfl⟩:=on aR
  ·exact fin ⟨rfl,rfl⟩ ⟨ah,bz⟩
  ·exact fin ⟨rfl,rfl⟩ (xK (b2 _) Lu)
 |false=>
  rw[ec,aQ]at aR;cases eX:decide ((P.ai f.aG).d.k=8)with
  |true=>
   rw[eX,a4]at aR;cases aa:Nat.beq c.ao 2<;>rw[aa]at aR<;>simp only[a4,aQ]at aR<;>obtain⟨rfl,rfl,rfl⟩:=on aR
   ·exact fin ⟨rfl,rfl⟩ Ls
   ·exact fin ⟨rfl,rfl⟩ (xK (b2 _) Lu)
  |false=>
   rw[eX,aQ]at aR;cases aa:Nat.beq c.ao 3<;>rw[aa]at aR<;>simp only[a4,aQ]at aR<;>obtain⟨rfl,rfl,rfl⟩:=on aR
   ·exact fin ⟨rfl,rfl⟩ ⟨ah,bz⟩
   ·have hm:=bz.m (cj aa);exact fin ⟨rfl,rfl⟩ (xK hm.1 hm.2.1)
def HL{P:bm}{f f':bC}{au:List bC}(h:zs P (f::au))(ax:f'.aG=f.aG/\f'.pl=f.pl):zs P (f'::au):=by
 cases au with
 |nil=>trivial| cons r bj=>refine⟨?_,h.2⟩;rw[ax.1,ax.2];exact h.1
def aiB{P:bm}(h:iw P){S:fJ}(c2:kV P S){c:bo}(aL:l1 P S (.hand c)):zt P (kw P c S):=by
 obtain⟨f,au,cX,ah,aJ⟩:=aL;have ar:=c2.op f (by rw[cX];exact .head _);have jr:=c2.chain;rw[cX]at jr;unfold kw;rw[cX];simp only;cases aR:fQ P f c with
 |loop=>exact .inr rfl
 |on f' c' done=>
  have ae:=EL h ar ah aJ aR;have dg:=ar.lo;cases done with
  |true=>obtain⟨ed,dP⟩:=ae.Qd rfl;exact XO (S:=⟨S.kn,f'::au,S.aU+1⟩) (f:=f') (au:=au) ⟨rfl,λx ab=>c2.op x (by rw[cX];exact .tail _ ab),c2.kn,HL jr ae.same,by rw[ae.same.2];exact dg⟩ ed (by rw[ae.same.2];exact dP)
  |false=>
   refine XP h (S:=⟨S.kn,f'::au,S.aU+1⟩) (f:=f') (au:=au) ⟨λx ab=>?_,c2.kn,HL jr ae.same⟩ rfl;rcases eu.1 ab with rfl | ab;·exact ae.on rfl
   ·exact c2.op x (by rw[cX];exact .tail _ ab)
def AX{P:bm}(h:iw P){S:fJ}(c2:kV P S){q:nL}(aL:l1 P S q):zt P (pQ P q S):=by
 cases q with
 |begin k a=>exact aiz h c2 aL| hand c=>exact aiB h c2 aL
end Go.V
