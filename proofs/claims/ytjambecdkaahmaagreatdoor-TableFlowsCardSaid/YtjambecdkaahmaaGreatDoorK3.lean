/- Part 3 of what the proofs of this seat share: the executor, data in memory, walks.
-/
import Derived.Test.YtjambecdkaahmaaGreatDoorK2
import Derived.WideMake
import Derived.ChangeSame
import Derived.ChangeArms
import Derived.OpenShut
import Derived.Deep.DeepHandedRow
import Derived.Lib.LaidTab
import Derived.Test.YtjambecdkaahmaaGreatDoorRows
import Derived.Test.YtjambecdkaahmaaGreatDoorCards
import Derived.Test.YtjambecdkaahmaaGreatDoorTie
import Derived.WalkKit
import Derived.ProofKit
import Derived.WideKeyArgs
import Derived.Below
import Derived.JoinedOf
set_option linter.all false
set_option maxHeartbeats 8000000
set_option maxRecDepth 100000
namespace Go.V
open Go Go.Proofs
def bq:=@Nat.zero_le
def dt:=@of_decide_eq_false
def ea:=@decide_eq_false
def iQ:=@decide_eq_true
def mm:=@List.flatMap_append
def m6:=@Option.some.inj
def lM:=@List.map_map
def wa:=@Nat.add_sub_cancel'
def z0:=@MapKept.run_getObj_map
def x6:=@List.getElem_of_mem
def wb:=@Bool.eq_false_iff
def uK:=@List.cons.injEq
def z1:=@MapKept.run_checkKey
def z2:=@MapKept.run_findKey
def Fu:=@List.getElem_append_left
def Fv:=@ByteArray.size_append
def Fw:=@Int.ofNat_eq_natCast
def Fx:=@List.mem_of_mem_take
def Fy:=@Bool.not_eq_false'
def Jb:=@MapKept.run_setObj_map
def Fz:=@List.all_eq_false
def FA:=@DataW.trod_string
def Jc:=@Bool.and_eq_false_iff
def FB:=@List.all_append
def Jd:=@List.flatten_cons
def Je:=@List.foldl_append
def Jf:=@List.not_mem_nil
def Jg:=@DataW.trod_array
def Jh:=@List.sum_append
def FC:=@Bool.true_or
variable{I I':aS}{M:List ay}{os:bk}{α:Type}{size i sz ed a3 m:Nat}{aW:List Int}{d:a9}{hi:Int}{P:Program}{t:dG}{x y:Operand}{other:Prop}{g:dX}{w z f:Bool}{F:Fr}{C:c2}{vs cs:List Value}{X:cD}{s:ByteArray}{dc qT:dz}{v:Value}{W jm:World}{b':Array Field}{rows:List (List Value)}{p:List MemPlace}
def bk.ok.row{f:α->List Value}(az:∀ x,(f x).length=size)(ao:0<size){l:List α}(h:os.ok size (l.flatMap f)){e:Nat}(a4:∀ x∈os.aY e,x∈M){j:Nat}(an:j<l.length) :
  ∃ ad,os.a.map (λg=>(⟨g,0,none⟩:Addr))=some ad/\ca I M (ad.add (j*size)) size (f l[j]):=by
 have ax:l.length=os.n:=by have U:=h.len;rw[hb f size az]at U;exact Nat.eq_of_mul_eq_mul_right ao U
 cases aC:os.a with
 |none=>have:=(h.nil aC).1;omega
 |some g=>
  obtain⟨U,aa,af,aR⟩:=h.cap g aC;refine⟨⟨g,0,none⟩,rfl,?_⟩;have bo:j*size+size<=os.n*size:=by have:=rr size (show j+1<=os.n by omega);rw[jG,oX]at this;exact this
  have e3:os.n*size<=os.aJ.length:=by rw[U];exact rr _ aa
  have:=dn (I:=I) (M:=M) (b:=g) (T:=e) (cs:=os.aJ) (a4 _ (by simp[bk.aY,aC])) (k:=j*size) (n:=size) (by omega);have aw:(os.aJ.drop (j*size)).take size=f l[j]:=by rw[<-rM f size az l j an,<-aR,uE,sZ];congr 1;omega
  rw[aw]at this;exact this
def x7:ByteArray:=⟨#[34]⟩
def wc:ByteArray:=⟨#[93,45,94]⟩
def Cm(s:ByteArray):List UInt8:=[34]++s.data.toList.flatMap (mj · x7)++[34]
def strOf(l:List UInt8):ByteArray:=⟨l.toArray⟩
def Cn{α β:Type}(f:α->List β)(m:Nat)(az:∀ x,(f x).length<=m):∀ l:List α,(l.flatMap f).length<=m*l.length
 |[]=>by simp
 |x::l=>by have U:=Cn f m az l;have aa:=az x;simp only[lD,cU,e1,Nat.mul_add];omega
def Pt(s:ByteArray)(ap:s.size<=1099511627776):Spec Tryz.prog 278 [.string s] I [] λr I' M'=>r=.string (strOf (Cm s))/\I'=I/\M'=[]:=by
 refine bX [3] aV Tryz.func278 rfl rfl rfl ?_;intro B ao;refine cz.mk λb ai Ff=>?_;refine bb.mk (fc.new.M b) [] _ (.refl _) (m1 b fc.Fl 34 (by decide)) ?_;rintro v I' M' -⟨rfl,rfl,sV,e7,x8,rfl⟩;refine dB.inv (ι:=Nat×fc) (λp=>{ bj:=[(0,.val (.string s)),(3,.val (ptr b)),(4,.val (.int .i64 p.1))],c5:=I',dv:=p.2.M b }) (λp=>p.1<=s.size/\p.2.ok/\p.2.cd=[34]++(s.data.toList.take p.1).flatMap (mj · x7)) (λp=>s.size-p.1) ?_ ?_
 ·exact⟨(0,sV),⟨by simp,e7,by simp[x8,fc.new]⟩,.perm (by simp) .refl,fZ,.nil⟩
 ·rintro⟨i,x⟩⟨hi,ab,mo⟩;simp only at hi ab mo;have bV:x.cd.length<=1+4*i:=by rw[mo];have:=Cn (mj · x7) 4 (λc=>Cg c x7) (s.data.toList.take i);have aa:=zH i s.data.toList;simp only[cU,e1,jh];omega
  refine a0.mk (λh=>?_) (λh=>?_)
  ·have aK:i<s.size:=by simpa using h
   have bP:i<s.data.toList.length:=aK;refine oC.mk i rfl aK ?_;refine bb.mk (x.M b) [] _ (by simp) (Fo b ab s[i] x7 (by omega)) ?_;rintro v I' M' -⟨rfl,y,aN,gp,rfl⟩;have fq:IntKind.i64.wrap ((i:Int)+1)=((i+1:Nat):Int):=by rw[wrap_i64 ⟨by omega,by omega⟩];omega
   refine a5.mk _ fq ?_;refine⟨(i+1,y),⟨⟨by simp only;omega,aN,?_⟩,by simp only;omega⟩,.perm (by simp) .refl,fZ,.nil⟩;simp only;rw[gp,mo,hU bP,mm,gl];congr 1;simp;rfl
  ·have c1:s.size<=i:=by simpa using h
   have gS:s.data.toList.take i=s.data.toList:=hn c1;refine bb.mk (x.M b) [] _ (by simp) (m1 b ab 34 (by omega)) ?_;rintro v I' M' -⟨rfl,rfl,y,aN,gp,rfl⟩;refine bb.mk (y.M b) [] _ (by simp) (uI b aN (by rw[gp];simp;omega)) ?_;rintro v I' M' -⟨rfl,rfl,rfl⟩;refine⟨_,_,.refl,?_,rfl,by simp⟩;rw[gp,mo,gS];rfl
def rT(p:UInt8×UInt8):List UInt8:=
 mj p.1 wc++((bif decide (1<IntKind.u8.wrap ((p.2.toNat:Int)-p.1.toNat))then [45]else [])++(bif !decide ((p.2.toNat:Int)=p.1.toNat)then mj p.2 wc else []))
def x9(aW:List Int)(a b c d:Int):List UInt8:=
 bif (a == hN 0&&(b == hN 0&&(c == hN 0&&d == hN 0)))then [46]else [91]++(m4 (hr aW 0 [a,b,c,d])).flatMap rT++[93]
def Pu(p:UInt8×UInt8):(rT p).length<=9:=by
 have U:=Cg p.1 wc;have aa:=Cg p.2 wc;unfold rT;cases decide (1<IntKind.u8.wrap ((p.2.toNat:Int)-p.1.toNat))<;>cases decide ((p.2.toNat:Int)=p.1.toNat)<;>simp<;>omega
def Pv(aW:List Int)(a b c d:Int):(m4 (hr aW 0 [a,b,c,d])).length<=256:=by have U:=I9 aW [a,b,c,d] 0;have aa:=Pq (hr aW 0 [a,b,c,d]);simp only[e1,jh]at U;omega
def XU(aW:List Int)(a b c d:Int):(x9 aW a b c d).length<=2306:=by
 have U:=Pv aW a b c d;have aa:=Cn rT 9 Pu (m4 (hr aW 0 [a,b,c,d]));unfold x9;cases(a == hN 0&&(b == hN 0&&(c == hN 0&&d == hN 0)))
 ·simp only[ba,cU,e1,jh];omega
 ·simp
def XV(x2:pX I aW){a b c d:Int}(s9:∀ x∈[a,b,c,d],eh x):Spec Tryz.prog 279 [.agg #[.int .u64 a,.int .u64 b,.int .u64 c,.int .u64 d]] I []
  λr I' M'=>r=.string (strOf (x9 aW a b c d))/\(∀ b o,I b=some o->I' b=some o)/\M'=[]:=by
 refine bX [3] aV Tryz.func279 rfl rfl rfl ?_;intro B ao;refine cW.draw aV rfl rfl rfl ?_;refine fi.mk _ XI ?_;rintro v I' M' -⟨rfl,rfl,rfl⟩;refine fh.Oy aV (e:=47) rfl rfl rfl rfl (by kernel_rfl) ?_;refine a0.mk (λh=>?_) (λh=>?_)
 ·refine⟨_,_,.refl,?_,λ_ _ h=>h,rfl⟩;simp only[x9,h];rfl
 ·refine cz.mk λg aA zU=>?_;refine bb.mk (fc.new.M g) [] _ (.refl _) (m1 g fc.Fl 91 (by decide)) ?_;rintro v I' M' -⟨rfl,rfl,sV,e7,x8,rfl⟩;refine bb.mk [] (sV.M g) _ (by simp) (XS x2 s9) ?_;rintro v cL M1 -⟨cM,os,rfl,ep,rfl⟩;have gx:=Pv aW a b c d;have e3:x9 aW a b c d=[91]++(m4 (hr aW 0 [a,b,c,d])).flatMap rT++[93]:=by simp only[x9,h];rfl
  generalize qC:m4 (hr aW 0 [a,b,c,d])=bd at *;have ax:bd.length=os.n:=by have:=ep.len;rw[Ft]at this;omega
  refine dB.inv (ι:=Nat×fc) (λp=>{ bj:=[(3,.val (ptr g)),(11,.val os.val),(12,.val (.int .i64 os.n)),(13,.val (.int .i64 p.1))],c5:=cL,dv:=p.2.M g++os.aY 386 }) (λp=>p.1<=os.n/\p.2.ok/\p.2.cd=[91]++(bd.take p.1).flatMap rT) (λp=>os.n-p.1) ?_ ?_;·exact⟨(0,sV),⟨by simp,e7,by simp[x8,fc.new]⟩,.perm (by simpa using ha) .refl,ew,.nil⟩
  ·rintro⟨i,x⟩⟨hi,ab,mo⟩;simp only at hi ab mo;have bV:x.cd.length<=1+9*i:=by rw[mo];have:=Cn rT 9 Pu (bd.take i);have aa:=zH i bd;simp only[cU,e1,jh];omega
   refine a0.mk (λh=>?_) (λh=>?_)
   ·have aK:i<os.n:=by simpa using h
    have bP:i<bd.length:=by omega
    obtain⟨ad,b7,bs⟩:=bk.ok.row (I:=cL) (M:=x.M g++os.aY 386) (f:=iv) (λ_=>rfl) (by decide) ep (e:=386) (λy aN=>by simp[aN]) bP;refine bc.mk ad i b7 rfl aK ?_;refine aF.mk _ bs ?_;generalize aG:bd[i]=p;refine cH.mk 0 rfl (by decide) ?_;refine bb.mk (x.M g) (os.aY 386) _ (.refl _) (Fo g ab p.1 wc (by omega)) ?_;rintro v I' M' -⟨rfl,y,aN,gp,rfl⟩;have Pk:y.cd.length<=5+9*i:=by rw[gp,cU];have:=Cg p.1 wc;omega
    refine cH.mk 1 rfl (by decide) ?_;refine cH.mk 0 rfl (by decide) ?_;refine a5.mk _ rfl ?_;refine a0.mk (λdO=>?_) (λdO=>?_)
    ·refine bb.mk (y.M g) (os.aY 386) _ (by simp) (m1 g aN 45 (by omega)) ?_;rintro v I' M' -⟨rfl,rfl,u,hu,uJ,rfl⟩;have Pw:u.cd.length<=6+9*i:=by rw[uJ];simp;omega
     refine cH.mk 1 rfl (by decide) ?_;refine cH.mk 0 rfl (by decide) ?_;refine a0.mk (λbL=>?_) (λbL=>?_)
     ·refine cH.mk 1 rfl (by decide) ?_;refine bb.mk (u.M g) (os.aY 386) _ (by simp) (Fo g hu p.2 wc (by omega)) ?_;rintro v I' M' -⟨rfl,z,bg,qQ,rfl⟩;have fq:IntKind.i64.wrap ((i:Int)+1)=((i+1:Nat):Int):=by rw[wrap_i64 ⟨by omega,by omega⟩];omega
      refine a5.mk _ fq ?_;refine⟨(i+1,z),⟨⟨by simp only;omega,bg,?_⟩,by simp only;omega⟩,.perm (by simp) .refl,ew,.nil⟩;simp only;rw[qQ,uJ,gp,mo,hU bP,mm,aG];simp[rT,dO,bL]
     ·have fq:IntKind.i64.wrap ((i:Int)+1)=((i+1:Nat):Int):=by rw[wrap_i64 ⟨by omega,by omega⟩];omega
      refine a5.mk _ fq ?_;refine⟨(i+1,u),⟨⟨by simp only;omega,hu,?_⟩,by simp only;omega⟩,.perm (by simp) .refl,ew,.nil⟩;simp only;rw[uJ,gp,mo,hU bP,mm,aG];simp[rT,dO,bL]
    ·refine cH.mk 1 rfl (by decide) ?_;refine cH.mk 0 rfl (by decide) ?_;refine a0.mk (λbL=>?_) (λbL=>?_)
     ·refine cH.mk 1 rfl (by decide) ?_;refine bb.mk (y.M g) (os.aY 386) _ (by simp) (Fo g aN p.2 wc (by omega)) ?_;rintro v I' M' -⟨rfl,z,bg,qQ,rfl⟩;have fq:IntKind.i64.wrap ((i:Int)+1)=((i+1:Nat):Int):=by rw[wrap_i64 ⟨by omega,by omega⟩];omega
      refine a5.mk _ fq ?_;refine⟨(i+1,z),⟨⟨by simp only;omega,bg,?_⟩,by simp only;omega⟩,.perm (by simp) .refl,ew,.nil⟩;simp only;rw[qQ,gp,mo,hU bP,mm,aG];simp[rT,dO,bL]
     ·have fq:IntKind.i64.wrap ((i:Int)+1)=((i+1:Nat):Int):=by rw[wrap_i64 ⟨by omega,by omega⟩];omega
      refine a5.mk _ fq ?_;refine⟨(i+1,y),⟨⟨by simp only;omega,aN,?_⟩,by simp only;omega⟩,.perm (by simp) .refl,ew,.nil⟩;simp only;rw[gp,mo,hU bP,mm,aG];simp[rT,dO,bL]
   ·have c1:os.n<=i:=by simpa using h
    have gS:bd.take i=bd:=hn (by omega);refine bb.mk (x.M g) (os.aY 386) _ (.refl _) (m1 g ab 93 (by omega)) ?_;rintro v I' M' -⟨rfl,rfl,y,aN,gp,rfl⟩;refine bb.mk (y.M g) (os.aY 386) _ (.refl _) (uI g aN (by rw[gp];simp;omega)) ?_;rintro v I' M' -⟨rfl,rfl,rfl⟩;refine⟨_,_,.sub (ho _) .refl,?_,cM,rfl⟩;rw[gp,mo,gS,e3];rfl
structure FD(d:a9):Prop where
 k:d.k<10
 t:d.t.size<=255
 m7:d.k=6->0<=d.lo/\d.lo<=99/\(d.hi=-1\/(d.lo<=d.hi/\d.hi<=99))
def FE{n:Int}(h:fits d n=true):FD d:=by
 unfold fits at h;cases U:decide (10<=d.k)with
 |true=>rw[U]at h;cases h
 |false=>
  rw[U]at h;simp only[ba]at h;have ae:d.k<10:=by simpa using U
  cases aa:(decide (n<qO d.k.toNat)||(decide (0<=mZ d.k.toNat)&&decide (mZ d.k.toNat<n)))with
  |true=>rw[aa]at h;cases h
  |false=>
   rw[aa]at h;simp only[ba]at h;have cv:d.t=⟨#[]⟩->d.t.size<=255:=λe=>by rw[e];decide
   cases af:decide (d.k=1)with
   |true=>rw[af]at h;simp only[bh,b3,e0]at h;exact⟨ae,cv h.1,λe=>by simp at af;omega⟩
   |false=>
    rw[af]at h;simp only[ba]at h;cases aR:decide (d.k=2)with
    |true=>rw[aR]at h;simp only[bh,b3,nw,oW,nP]at h;exact⟨ae,by omega,λe=>by simp at aR;omega⟩
    |false=>
     rw[aR]at h;simp only[ba]at h;cases bC:(decide (d.k=3)||decide (d.k=9))with
     |true=>rw[bC]at h;simp only[bh,b3]at h;refine⟨ae,?_,λe=>by simp at bC;omega⟩;have:=h.1;unfold kM at this;simp only[b3,e0]at this;omega
     |false=>
      rw[bC]at h;simp only[ba]at h;cases bO:decide (d.k=6)with
      |true=>
       rw[bO]at h;simp only[bh,b3,e0,nw,oW,nP,Jc]at h;refine⟨ae,cv h.2.2,λ_=>?_⟩;obtain⟨⟨aT,aU,bG⟩,_⟩:=h;refine⟨by omega,by omega,?_⟩;rcases bG with bG | bG
       ·left
        simpa using bG
       ·right
        omega
      |false=>rw[bO]at h;simp only[ba,b3,e0]at h;exact⟨ae,cv h.2.1,λe=>by simp at bO;omega⟩
def Co:List Value:=[.int .i64 0,.int .i64 1,.string ⟨#[63]⟩,.int .i64 0,.int .i64 (-1),.string ⟨#[42]⟩,.int .i64 1,.int .i64 (-1),.string ⟨#[43]⟩]
def Ji(I:aS):Prop:=∃ T aj,I 3=some (.cells Co.toArray T aj)
def x'(lo:Nat)(hi:Int):List UInt8:=
 bif decide (hi=lo)then [123]++k6 lo++[125]else
 bif decide (hi=-1)then [123]++k6 lo++[44,125]else [123]++k6 lo++[44]++k6 hi.toNat++[125]
def qU(lo:Nat)(hi:Int):List UInt8:=
 bif decide ((0:Int)=lo)&&decide (1=hi)then [63]else
 bif decide ((0:Int)=lo)&&decide (-1=hi)then [42]else
 bif decide ((1:Int)=lo)&&decide (-1=hi)then [43]else x' lo hi
def XW(lo:Nat)(hi:Int):(x' lo hi).length<=7:=by
 have U:=Ch lo;have aa:=Ch hi.toNat;unfold x';cases decide (hi=lo)<;>cases decide (hi=-1)<;>simp<;>omega
def XX(lo:Nat)(hi:Int):(qU lo hi).length<=7:=by
 have U:=XW lo hi;unfold qU;cases(decide ((0:Int)=lo)&&decide (1=hi))<;>cases(decide ((0:Int)=lo)&&decide (-1=hi))<;>cases(decide ((1:Int)=lo)&&decide (-1=hi))<;>simp<;>omega
def Px(n:Nat):(v5 n).size<=2:=Ch n
def nZ(lo hi:Int):a9:=⟨6,0,0,0,0,⟨#[]⟩,lo,hi,none,0,0,[]⟩
def XY{lo:Nat}(ev:lo<=99)(e2:hi=-1\/((lo:Int)<=hi/\hi<=99)):fits (nZ lo hi) 1=true:=by
 have aw:qO 6=1:=by decide
 have aB:mZ 6=1:=by decide
 rcases e2 with rfl | ⟨U,aa⟩
 ·simp[fits,nZ,aw,aB,a9.lK];exact⟨ea (by omega),ea (by omega)⟩
 ·simp[fits,nZ,aw,aB,a9.lK];exact⟨ea (by omega),ea (by omega),.inr ⟨ea (by omega),ea (by omega)⟩⟩
def XZ(a b:List UInt8):strOf a++strOf b=strOf (a++b):=by apply zW;simp[strOf]
def fh.we{t:Nat}{a b:List UInt8}(ap:a.length+b.length<=9223372036854775807){V:Value->Prop}(h:V (.string (strOf (a++b)))):fh P .add t x y (.val (.string (strOf a))) (.val (.string (strOf b))) V other:=
 fh.concat (a:=strOf a) (b:=strOf b) ap (by rw[XZ];exact h)
def X0(aL:o0 I)(aG:Ji I)(lo:Nat)(hi:Int)(ev:lo<=99)(e2:hi=-1\/((lo:Int)<=hi/\hi<=99)):Spec Tryz.prog 280 [.int .i64 lo,.int .i64 hi] I []
  λr I' M'=>r=.string (strOf (qU lo hi))/\I'=I/\M'=[]:=by
 refine bX [] aV Tryz.func280 rfl rfl rfl ?_;intro B ao;have bf:(nZ lo hi).ok I:=⟨by simp[nZ],by simp[nZ,eh],by simp[nZ,eh],by simp[nZ,eh],by simp[nZ,eh],by show(0:Nat)<=_;omega,⟨by simp only[nZ];omega,by simp only[nZ];omega⟩,⟨by simp only[nZ];omega,by simp only[nZ];omega⟩,⟨rfl,⟨cC _,by simp[nZ]⟩,.inl rfl⟩,by simp[nZ]⟩;refine bb.mk [] [] _ (.refl _) (OW aL bf 1) ?_;rintro v I' M' -⟨rfl,rfl,rfl⟩;rw[XY ev e2];refine a0.mk (λh=>by cases h) (λ_=>?_);have bs:ca I' ([]++[]) ⟨3,0,none⟩ 9 Co:=by obtain⟨T,aj,aG⟩:=aG;exact⟨rfl,_,T,aj,.inl aG,rfl,rfl⟩
 refine aF.mk _ bs ?_;refine dB.inv (ι:=Nat) (λi=>{ bj:=[(0,.val (.int .i64 lo)),(1,.val (.int .i64 hi)),(12,.val (.agg Co.toArray)),(13,.val (.int .i64 i))],c5:=I' }) (λi=>i<=3/\(1<=i->(decide ((0:Int)=lo)&&decide (1=hi))=false)/\(2<=i->(decide ((0:Int)=lo)&&decide (-1=hi))=false)/\(3<=i->(decide ((1:Int)=lo)&&decide (-1=hi))=false)) (λi=>3-i) ?_ ?_
 ·exact⟨0,⟨by simp,by simp,by simp,by simp⟩,.refl,ew,.nil⟩
 ·rintro i⟨hY,c8,m2,Py⟩
  match i,hY with
  |0,_=>
   refine a0.mk (λ_=>?_) (λh=>by simp at h);refine cH.mk 0 rfl (by decide) ?_;have next:(decide ((0:Int)=lo)&&decide (1=hi))=false->(((0+1:Nat)<=3/\(1<=(0+1:Nat)->(decide ((0:Int)=lo)&&decide (1=hi))=false)/\(2<=(0+1:Nat)->(decide ((0:Int)=lo)&&decide (-1=hi))=false)/\(3<=(0+1:Nat)->(decide ((1:Int)=lo)&&decide (-1=hi))=false))/\3-(0+1)<3-0):=λh=>by
    refine⟨⟨by simp,λ_=>?_,λbA=>?_,λbA=>?_⟩,by simp⟩;·exact h
    ·simp at bA
    ·simp at bA
   refine cB.mk (λaT=>?_) (λaT=>?_)
   ·refine a0.mk (λaU=>?_) (λaU=>?_)
    ·refine⟨_,_,.refl,?_,rfl,rfl⟩;have:qU lo hi=[63]:=by unfold qU;rw[aT,aU];rfl
     rw[this];rfl
    ·refine a5.mk 1 (by decide) ?_;exact⟨1,next (by rw[aT,aU];rfl),.refl,ew,.nil⟩
   ·refine a5.mk 1 (by decide) ?_;exact⟨1,next (by rw[aT];rfl),.refl,ew,.nil⟩
  |1,_=>
   refine a0.mk (λ_=>?_) (λh=>by simp at h);refine cH.mk 1 rfl (by decide) ?_;have next:(decide ((0:Int)=lo)&&decide (-1=hi))=false->(((1+1:Nat)<=3/\(1<=(1+1:Nat)->(decide ((0:Int)=lo)&&decide (1=hi))=false)/\(2<=(1+1:Nat)->(decide ((0:Int)=lo)&&decide (-1=hi))=false)/\(3<=(1+1:Nat)->(decide ((1:Int)=lo)&&decide (-1=hi))=false))/\3-(1+1)<3-1):=λh=>by
    refine⟨⟨by simp,λ_=>?_,λbA=>?_,λbA=>?_⟩,by simp⟩;·exact c8 (by decide)
    ·exact h
    ·simp at bA
   refine cB.mk (λaT=>?_) (λaT=>?_)
   ·refine a0.mk (λaU=>?_) (λaU=>?_)
    ·refine⟨_,_,.refl,?_,rfl,rfl⟩;have:qU lo hi=[42]:=by unfold qU;rw[c8 (by decide),aT,aU];rfl
     rw[this];rfl
    ·refine a5.mk 2 (by decide) ?_;exact⟨2,next (by rw[aT,aU];rfl),.refl,ew,.nil⟩
   ·refine a5.mk 2 (by decide) ?_;exact⟨2,next (by rw[aT];rfl),.refl,ew,.nil⟩
  |2,_=>
   refine a0.mk (λ_=>?_) (λh=>by simp at h);refine cH.mk 2 rfl (by decide) ?_;have next:(decide ((1:Int)=lo)&&decide (-1=hi))=false->(((2+1:Nat)<=3/\(1<=(2+1:Nat)->(decide ((0:Int)=lo)&&decide (1=hi))=false)/\(2<=(2+1:Nat)->(decide ((0:Int)=lo)&&decide (-1=hi))=false)/\(3<=(2+1:Nat)->(decide ((1:Int)=lo)&&decide (-1=hi))=false))/\3-(2+1)<3-2):=λh=>by
    refine⟨⟨by simp,λ_=>?_,λbA=>?_,λbA=>?_⟩,by simp⟩;·exact c8 (by decide)
    ·exact m2 (by decide)
    ·exact h
   refine cB.mk (λaT=>?_) (λaT=>?_)
   ·refine a0.mk (λaU=>?_) (λaU=>?_)
    ·refine⟨_,_,.refl,?_,rfl,rfl⟩;have:qU lo hi=[43]:=by unfold qU;rw[c8 (by decide),m2 (by decide),aT,aU];rfl
     rw[this];rfl
    ·refine a5.mk 3 (by decide) ?_;exact⟨3,next (by rw[aT,aU];rfl),.refl,ew,.nil⟩
   ·refine a5.mk 3 (by decide) ?_;exact⟨3,next (by rw[aT];rfl),.refl,ew,.nil⟩
  |3,_=>
   refine a0.mk (λh=>by simp at h) (λ_=>?_);have aw:=c8 (by decide);have aB:=m2 (by decide);have bD:=Py (by decide);have hZ:qU lo hi=x' lo hi:=by unfold qU;rw[aw,aB,bD];rfl
   rw[hZ];have uL:=Px lo;have Io:=Px hi.toNat;have uL:=Ch lo;refine a0.mk (λh=>?_) (λh=>?_);·refine bb.mk [] [] _ (.refl _) (Fq lo (by omega)) ?_;rintro v I' M' -⟨rfl,rfl,rfl⟩;refine fh.we (a:=[123]) (b:=k6 lo) (by simp;omega) ?_;refine fh.we (a:=[123]++k6 lo) (b:=[125]) (by simp;omega) ?_;refine⟨_,_,.refl,?_,rfl,rfl⟩;rw[x',h];rfl
   ·refine a0.mk (λk=>?_) (λk=>?_)
    ·refine bb.mk [] [] _ (.refl _) (Fq lo (by omega)) ?_;rintro v I' M' -⟨rfl,rfl,rfl⟩;refine fh.we (a:=[123]) (b:=k6 lo) (by simp;omega) ?_;refine fh.we (a:=[123]++k6 lo) (b:=[44,125]) (by simp;omega) ?_;refine⟨_,_,.refl,?_,rfl,rfl⟩;rw[x',h,k];rfl
    ·refine bb.mk [] [] _ (.refl _) (Fq lo (by omega)) ?_;rintro v I' M' -⟨rfl,rfl,rfl⟩;have ae:hi≠-1:=by simpa using k
     obtain⟨ax,rfl⟩:=oV (show 0<=hi by omega);have Io:=Ch ax;refine fh.we (a:=[123]) (b:=k6 lo) (by simp;omega) ?_;refine fh.we (a:=[123]++k6 lo) (b:=[44]) (by simp;omega) ?_;refine bb.mk [] [] _ (.refl _) (Fq ax (by omega)) ?_;rintro v I' M' -⟨rfl,rfl,rfl⟩;refine fh.we (a:=[123]++k6 lo++[44]) (b:=k6 ax) (by simp;omega) ?_;refine fh.we (a:=[123]++k6 lo++[44]++k6 ax) (b:=[125]) (by simp;omega) ?_;refine⟨_,_,.refl,?_,rfl,rfl⟩;rw[x',h,k];rfl
def rU:List (List UInt8):=[[],[],[],[],[],[],[],[],[],[],[],[],[],[32],[],[],[32,47,32],[],[],[],[],[38],[],[],[33],[],[],[60],[],[62]]
def p1(j:Nat):List UInt8:=rU.getD j []
def Cp(I:aS):Prop:=∃ T aj,I 1=some (.cells (rU.map λl=>Value.string (strOf l)).toArray T aj)
def Cp.rd(h:Cp I)(M:List ay){j:Nat}(an:i+j<30):ca I M ((Addr.add ⟨1,0,none⟩ i).add j) 1 [.string (strOf (p1 (i+j)))]:=by
 obtain⟨T,aj,h⟩:=h;rw[v',dS _ rfl];refine⟨rfl,_,T,aj,.inl h,?_,rfl⟩;have U:i+j<(rU.map λl=>Value.string (strOf l)).length:=by simp[rU];omega
 have aa:i+j<rU.length:=by simp[rU];omega
 simp only[dk];rw[fg U,qI,pR];simp[p1,dh,aa]
def Cq(j:Nat):(p1 j).length<=3:=by
 by_cases h:j<30
 ·have:∀ j:Fin 30,(p1 j.val).length<=3:=by decide
  exact this ⟨j,h⟩
 ·have:rU.length<=j:=by simp[rU];omega
  simp[p1,dh,this]
def p2(aW:List Int)(d:a9):List UInt8:=
 bif decide (d.k=0)||decide (d.k=2)then Cm d.t else
 bif decide (d.k=1)then x9 aW d.dJ d.s1 d.s2 d.dQ else
 bif decide (d.k=3)then d.t.data.toList else
 bif decide (d.k=9)then p1 27++d.t.data.toList++[58,32]else p1 (d.k.toNat*3)
def n1(d:a9):List UInt8:=bif decide (d.k=6)then qU d.lo.toNat d.hi else p1 (d.k.toNat*3+2)
def X1(s:ByteArray):strOf s.data.toList=s:=zW (by simp[strOf])
def Jj(aL:o0 I)(aG:Ji I)(FF:Cp I)(ah:d.ok I)(az:FD d):Spec Tryz.prog 263 [d.val] I [] λr I' M'=>r=.string (strOf (n1 d))/\I'=I/\M'=[]:=by
 refine bX [] aV Tryz.func263 rfl rfl rfl ?_;intro B ao;refine a0.mk (λh=>?_) (λh=>?_)
 ·obtain⟨aT,aU,bG⟩:=az.m7 (by simpa using h);have aw:d.lo=((d.lo.toNat:Nat):Int):=by omega
  have jd:=X0 aL aG d.lo.toNat d.hi (by omega) (by omega);rw[<-aw]at jd;refine bb.mk [] [] _ (.refl _) jd ?_;rintro v I' M' -⟨rfl,rfl,rfl⟩;refine⟨_,_,.refl,?_,rfl,rfl⟩;simp only[n1,h];rfl
 ·have ae:=ah.k;have Ck:=az.k;refine cH.mk d.k.toNat (by omega) (by omega) ?_;refine aF.mk _ (FF.rd _ (by show d.k.toNat*3+2<30;omega)) ?_;refine⟨_,_,.refl,?_,rfl,rfl⟩;simp only[n1,h];rfl
def Pz(x2:pX I aW)(FF:Cp I)(ah:d.ok I)(az:FD d):Spec Tryz.prog 261 [d.val] I []
  λr I' M'=>r=.string (strOf (p2 aW d))/\(∀ b o,I b=some o->I' b=some o)/\M'=[]:=by
 refine bX [] aV Tryz.func261 rfl rfl rfl ?_;intro B ao;have ae:=ah.k;have Ck:=az.k;have av:=az.t;have lit:(decide (d.k=0)||decide (d.k=2))=true->p2 aW d=Cm d.t:=λh=>by simp only[p2,h];rfl
 refine a0.mk (λU=>?_) (λU=>?_)
 ·refine a0.mk (λ_=>?_) (λh=>by rw[U]at h;cases h);refine bb.mk [] [] _ (.refl _) (Pt d.t (by omega)) ?_;rintro v I' M' -⟨rfl,rfl,rfl⟩;refine⟨_,_,.refl,?_,λ_ _ h=>h,rfl⟩;rw[lit (by rw[U];rfl)]
 ·refine a0.mk (λaa=>?_) (λaa=>?_)
  ·refine bb.mk [] [] _ (.refl _) (Pt d.t (by omega)) ?_;rintro v I' M' -⟨rfl,rfl,rfl⟩;refine⟨_,_,.refl,?_,λ_ _ h=>h,rfl⟩;rw[lit (by rw[aa];simp)]
  ·refine a0.mk (λaf=>?_) (λaf=>?_)
   ·refine bb.mk [] [] _ (.refl _) (XV x2 (a:=d.dJ) (b:=d.s1) (c:=d.s2) (d:=d.dQ) (λx ab=>by
     simp only[eg,Jf,or_false]at ab;rcases ab with rfl | rfl | rfl | rfl;·exact ah.dJ
     ·exact ah.s1
     ·exact ah.s2
     ·exact ah.dQ)) ?_
    rintro v I' M' -⟨rfl,bF,rfl⟩;refine⟨_,_,.refl,?_,bF,rfl⟩;simp only[p2,U,aa,af];rfl
   ·refine a0.mk (λaR=>?_) (λaR=>?_)
    ·refine⟨_,_,.refl,?_,λ_ _ h=>h,rfl⟩;simp only[p2,U,aa,af,aR];rw[<-X1 d.t];rfl
    ·refine a0.mk (λbC=>?_) (λbC=>?_)
     ·have FG:d.k=9:=by simpa using bC
      refine cW.draw aV rfl rfl rfl ?_;refine cH.mk 9 FG (by decide) ?_;refine aF.mk _ (FF.rd _ (by decide)) ?_;have gQ:(strOf (p1 27)).size=1:=by decide
      refine fh.concat (a:=strOf (p1 27)) (b:=d.t) (by omega) ?_;refine fh.concat (a:=strOf (p1 27)++d.t) (b:=strOf [58,32]) (by rw[Fv];show _+2<=_;omega) ?_;refine⟨_,_,.refl,?_,λ_ _ h=>h,rfl⟩;simp only[p2,U,aa,af,aR,bC];refine congrArg Value.string (zW ?_);simp[strOf]
     ·refine cH.mk d.k.toNat (by omega) (by omega) ?_;refine aF.mk _ (FF.rd _ (by show d.k.toNat*3+0<30;omega)) ?_;refine⟨_,_,.refl,?_,λ_ _ h=>h,rfl⟩;simp only[p2,U,aa,af,aR,bC];rfl
def mq(ns:List a9)(k:Int):Int:=(ns.map (·.k)).getD k.toNat 0
def paren(w:Bool)(s:List UInt8):List UInt8:=(bif w then [40]else [])++(s++(bif w then [41]else []))
def s'(sep:List UInt8)(f:Int->List UInt8):Bool->List Int->List UInt8
 |_,[]=>[]| b,k::ks=>(bif b then sep else [])++(f k++s' sep f true ks)
def Cr(d:a9):List UInt8:=p1 (d.k.toNat*3+1)
def Cs(aW:List Int)(ns:List a9)(d:a9)(g:Int->List UInt8):List UInt8:=
 p2 aW d++(s' (Cr d) (λk=>paren (gy d.k (mq ns k)) (g k)) false d.aX++n1 d)
def la(aW:List Int)(ns:List a9):Int->List UInt8:=xZ [] (Cs aW ns) ns
def o7(aW:List Int)(t:dG):List UInt8:=bif right t then la aW t.ns t.b1 else []
def PA{sep:List UInt8}{f g:Int->List UInt8}:∀ {ks:List Int} {b:Bool},(∀ k∈ks,f k=g k)->s' sep f b ks=s' sep g b ks
 |[],b,_=>rfl| k::ks,b,h=>by unfold s';rw[h k (by simp),PA λx ab=>h x (by simp[ab])]
def PB(al:right t=true){j:Nat}(an:j<t.ns.length):la aW t.ns j=Cs aW t.ns t.ns[j] (la aW t.ns):=by refine I5 (λd g dD h=>?_) al an;unfold Cs;rw[PA λk ae=>by rw[h k ae]]
def X2(w:Bool)(s:List UInt8):(paren w s).length<=s.length+2:=by cases w<;>simp[paren]
def PC{sep:List UInt8}{f:Int->List UInt8}(ap:sep.length<=3){g:Int->Nat}(az:∀ k,(f k).length+3<=g k):∀ {ks:List Int} {b:Bool},(s' sep f b ks).length<=mi g ks
 |[],b=>by simp[s',mi]
 |k::ks,b=>by
  have U:=PC ap az (ks:=ks) (b:=true);have aa:=az k;unfold s';simp only[cU,mi,dV,qK]at U |-;cases b<;>simp<;>omega
def Jk(aW:List Int)(az:FD d):(p2 aW d).length<=2400:=by
 have U:(Cm d.t).length<=2+4*d.t.size:=by have:=Cn (mj · x7) 4 (λc=>Cg c x7) d.t.data.toList;have aa:d.t.data.toList.length=d.t.size:=rfl;simp only[Cm,cU,e1,jh];omega
 have aa:=XU aW d.dJ d.s1 d.s2 d.dQ;have af:=az.t;have aR:=Cq 27;have bC:=Cq (d.k.toNat*3);have bO:d.t.data.toList.length=d.t.size:=rfl;unfold p2;cases(decide (d.k=0)||decide (d.k=2))<;>cases decide (d.k=1)<;>cases decide (d.k=3)<;>cases decide (d.k=9)<;>simp only[bh,ba,cU,e1,jh]<;>omega
def FH(d:a9):(n1 d).length<=7:=by
 have U:=XX d.lo.toNat d.hi;have aa:=Cq (d.k.toNat*3+2);unfold n1;cases decide (d.k=6)<;>simp only[bh,ba]<;>omega
def Jl{α:Type}(c:Nat):∀ l:List α,(l.map λ_=>c).sum=c*l.length
 |[]=>by simp
 |x::l=>by rw[dV,qK,Jl c l,e1,Nat.mul_add];omega
def PD(al:right t=true):(la aW t.ns t.b1).length+5<=2412*t.ns.length:=by
 have h:=Pa al (g:=λk=>(la aW t.ns k).length+5) (c:=λ_=>2412) λj an=>by rw[PB al an];have U:=Jk aW (FE (Fi al an));have aa:=FH t.ns[j];have af:=PC (sep:=Cr t.ns[j]) (Cq _) (f:=λk=>paren (gy t.ns[j].k (mq t.ns k)) (la aW t.ns k)) (g:=λk=>(la aW t.ns k).length+5) (λk=>by have:=X2 (gy t.ns[j].k (mq t.ns k)) (la aW t.ns k);omega) (ks:=t.ns[j].aX) (b:=false);unfold Cs;simp only[cU];omega
 rw[Jl]at h;exact h
def PE(aW:List Int)(t:dG):(o7 aW t).length<=2412*t.ns.length:=by
 unfold o7;cases al:right t with
 |false=>simp| true=>have:=PD (aW:=aW) al;simp only[bh];omega
abbrev Open:=Nat×Nat×Bool
def lb(e:Open):List Value:=[.int .i64 e.1,.int .i64 e.2.1,.bool e.2.2]
def nodeAt(ns:List a9)(j:Nat):a9:=ns.getD j ⟨0,0,0,0,0,.empty,0,0,none,0,0,[]⟩
def Jm(aW:List Int)(ns:List a9)(d:a9)(k:Int):List UInt8:=paren (gy d.k (mq ns k)) (la aW ns k)
def mr(aW:List Int)(ns:List a9)(e:Open):List UInt8:=bif decide ((e.2.1:Int)=0)then(bif e.2.2 then [40]else [])++p2 aW (nodeAt ns e.1)else []
def rV(aW:List Int)(ns:List a9)(e:Open):List UInt8:=
 mr aW ns e++(s' (Cr (nodeAt ns e.1)) (Jm aW ns (nodeAt ns e.1)) (decide (0<(e.2.1:Int))) ((nodeAt ns e.1).aX.drop e.2.1)++(n1 (nodeAt ns e.1)++(bif e.2.2 then [41]else [])))
def wg(ns:List a9):Int->Nat:=xZ 0 (λd g=>2+mi g d.aX) ns
def lN(ns:List a9)(e:Open):Nat:=1+mi (wg ns) ((nodeAt ns e.1).aX.drop e.2.1)
def ta(ns:List a9)(au:List Open):Nat:=(au.map (lN ns)).sum
def rW(aW:List Int)(ns:List a9)(au:List Open):List UInt8:=au.reverse.flatMap (rV aW ns)
def ya(aW:List Int)(ns:List a9)(au:List Open)(e:Open):rW aW ns (au++[e])=rV aW ns e++rW aW ns au:=by simp[rW]
def p3(ns:List a9)(au:List Open)(e:Open):ta ns (au++[e])=ta ns au+lN ns e:=by simp[ta]
def PF(ns:List a9):∀ au:List Open,au.length<=ta ns au
 |[]=>by simp
 |e::au=>by have:=PF ns au;simp only[ta,dV,qK,e1,lN]at this |-;omega
def tb{ns:List a9}{j:Nat}(h:j<ns.length):nodeAt ns j=ns[j]:=by simp[nodeAt,dh,h]
def X3{g dD:Int->Nat}{ks:List Int}(h:∀ k∈ks,g k=dD k):mi g ks=mi dD ks:=by unfold mi;rw[BZ h]
def PG(al:right t=true){j:Nat}(an:j<t.ns.length):wg t.ns j=2+mi (wg t.ns) t.ns[j].aX:=
 I5 (λd g dD h=>by rw[X3 h]) al an
def X4(al:right t=true):wg t.ns t.b1<=2*t.ns.length:=by
 have:=Pa al (g:=wg t.ns) (c:=λ_=>2) λj an=>by rw[PG al an];exact cC _
 rwa [Jl]at this
def PH(al:right t=true){j:Nat}(an:j<t.ns.length)(w:Bool):rV aW t.ns (j,0,w)=paren w (la aW t.ns j):=by rw[PB al an];simp only[rV,mr,tb an];cases w<;>simp[paren,Cs,Jm]<;>rfl
def PI(al:right t=true){j:Nat}(an:j<t.ns.length)(w:Bool):lN t.ns (j,0,w)+1=wg t.ns j:=by rw[PG al an];simp[lN,tb an];omega
def Jn(al:right t=true){j:Nat}(an:j<t.ns.length)(hi:i<t.ns[j].aX.length) :
  rV aW t.ns (j,i,w)=mr aW t.ns (j,i,w)++((bif decide (0<(i:Int))then Cr t.ns[j]else [])++(rV aW t.ns (t.ns[j].aX[i].toNat,0,gy t.ns[j].k (mq t.ns t.ns[j].aX[i]))++rV aW t.ns (j,i+1,w))):=by
 have ae:=qP al j an _ (dK hi);rw[PH al (by omega)];have aw:(((t.ns[j].aX[i].toNat:Nat):Int))=t.ns[j].aX[i]:=xP ae.1;rw[aw];have ah:=fg hi;simp only[rV,tb an];rw[ah];have aB:mr aW t.ns (j,i+1,w)=[]:=by have:decide (((i+1:Nat):Int)=0)=false:=ea (by omega);simp only[mr,this,ba]
 have bD:decide (0<((i+1:Nat):Int))=true:=iQ (by omega);rw[aB,bD];simp only[s',Jm,gl,mT]
def Jo(al:right t=true){j:Nat}(an:j<t.ns.length){w':Bool}(hi:i<t.ns[j].aX.length):lN t.ns (j,i+1,w)+lN t.ns (t.ns[j].aX[i].toNat,0,w')+1=lN t.ns (j,i,w):=by
 have ae:=qP al j an _ (dK hi);have U:=PI al (j:=t.ns[j].aX[i].toNat) (by omega) w';have aw:(((t.ns[j].aX[i].toNat:Nat):Int))=t.ns[j].aX[i]:=xP ae.1;rw[aw]at U;have ah:=fg hi;have bD:lN t.ns (j,i,w)=1+mi (wg t.ns) (t.ns[j].aX.drop i):=by simp[lN,tb an]
 have dH:lN t.ns (j,i+1,w)=1+mi (wg t.ns) (t.ns[j].aX.drop (i+1)):=by simp[lN,tb an]
 rw[bD,dH,ah];simp only[mi,dV,qK];omega
def Jp{j:Nat}(an:j<t.ns.length)(hi:t.ns[j].aX.length<=i):rV aW t.ns (j,i,w)=mr aW t.ns (j,i,w)++(n1 t.ns[j]++(bif w then [41]else [])):=by simp only[rV,tb an,ir hi];rfl
def Jq{d:Nat}{x:c6}(h:F d=x):fG F d x=F:=by
 funext t;unfold fG;cases e:Nat.beq t d with
 |false=>rfl| true=>have:=cf e;subst this;exact h.symm
def X5{d:Nat}{x:Option (List Value)}(h:C d=x):hG C d x=C:=by
 funext t;unfold hG;cases e:Nat.beq t d with
 |false=>rfl| true=>have:=cf e;subst this;exact h.symm
def FI:Code->Code
 | .scope c=>c
 | .seq a b=>match FI a with
  | .skip=>FI b| c=>c
 |_=>.skip
def PJ(c:Code)(l:Nat):Code:=(findLabel c l).getD .skip
def cg.v'{b j:Nat}{K:List ay->Prop}(a6 post:List ay)(cs:Array Value)(T:Nat)(a4:M=a6++⟨b,.cells cs T (0,0)⟩::post)(ai:i+j+vs.length<=cs.size)(U:hH vs=true)
  (h:K (a6++⟨b,.cells (bu cs.toList (i+j) vs).toArray T (0,0)⟩::post)):cg M (((⟨b,0,none⟩:Addr).add i).add j) vs K:=by
 rw[Go.V.v'];refine cg.add a6 post cs T a4 (by omega) U ?_;rw[dk];exact h
structure ix(I:aS)(aW:List Int):Prop where
 c:o0 I
 p:Ji I
 s:Cp I
 d:pX I aW
def Jr(a b c:α)(L:List α):(a::b::(L++[c])).Perm ([b,c]++(a::L)):=
 (List.Perm.swap b a _).trans (((((List.perm_append_singleton c L).cons a)).trans (List.Perm.swap c a L)).cons b)
def Js(a6:List Value)(a b c z:Value)(a2:List Value):bu (a6++([a,b,c]++a2)) (a6.length+1) [z]=a6++([a,z,c]++a2):=by have:=Pr a6 a b z (c::a2) _ rfl;exact this
def ix.mono(h:ix I aW)(bF:∀ b o,I b=some o->I' b=some o):ix I' aW:=by obtain⟨⟨Jt,f1,U⟩,⟨yb,f2,aa⟩,⟨X6,f3,af⟩,⟨aR,bC,Ju,f4,bO⟩⟩:=h;exact⟨⟨Jt,f1,bF _ _ U⟩,⟨yb,f2,bF _ _ aa⟩,⟨X6,f3,bF _ _ af⟩,⟨aR,bC,Ju,f4,bF _ _ bO⟩⟩
def m8(au:List Open):List Value:=au.flatMap lb
def Ct(au:List Open):(m8 au).length=au.length*3:=hb lb 3 (λ_=>rfl) au
def yc(au:List Open)(e:Open):m8 (au++[e])=m8 au++[.int .i64 e.1,.int .i64 e.2.1,.bool e.2.2]:=by simp[m8,lb]
abbrev Cu:=fc×bk×List Open×aS
def PK(t:dG)(g:Nat)(x:Cu):ur:={ bj:=[(1,.ref 1 0),(3,.val (ptr g)),(4,.val x.2.1.val)],cl:=[(1,t.cells)],c5:=x.2.2.2,dv:=x.2.1.aY 347++x.1.M g }
structure FJ(dj:aS)(aW:List Int)(t:dG)(x:Cu):Prop where
 le:∀ b o,dj b=some o->x.2.2.2 b=some o
 ok:x.1.ok
 os:x.2.1.ok 3 (m8 x.2.2.1)
 ne:x.2.2.1≠[]
 ahX:∀ e∈x.2.2.1,e.1<t.ns.length
 ahY:x.1.cd++rW aW t.ns x.2.2.1=la aW t.ns t.b1
 ahZ:ta t.ns x.2.2.1<=2*t.ns.length
def PL{dj:aS}(b6:ix dj aW)(av:t.ok dj)(al:right t=true)(ax:t.n<=1024){g:Nat}{p:Nat->Nat×Cu->Prop}(x:Cu)(ab:FJ dj aW t x)(aG:∀ y,FJ dj aW t y->ta t.ns y.2.2.1<ta t.ns x.2.2.1->p 0 (g,y))(B:Nat)(ao:World)(G:Fr)(yd:c2) :
  V ⟨Tryz.prog,jI,[3],Tryz.f244.ntmps,B,ao,dj,[],none⟩ (PJ (FI (Tryz.f244.body.getD .skip)) 0) (fG (fG (fG G 4 (.val x.2.1.val)) 3 (.val (ptr g))) 1 (.ref 1 0)) (hG yd 1 (some t.cells)) x.2.2.2 (x.2.1.aY 347++x.1.M g)
   (IJ (λl=>nE [] (λy=>PK t y.1 y.2) (p l)) (sO ⟨Tryz.prog,jI,[3],Tryz.f244.ntmps,B,ao,dj,[],none⟩ Tryz.f244.results.toList
    (λr I' M'=>r=.string (strOf (la aW t.ns t.b1))/\(∀ b o,dj b=some o->I' b=some o)/\M'=[]))):=by
 obtain⟨x,⟨x4,n,er,aJ⟩,au,cL⟩:=x;obtain⟨bo,Cv,ep,bB,hx,lO,PM⟩:=ab;simp only at bo Cv ep bB hx lO PM aG |-;have ye:=b6.mono bo;have wh:=av.mono bo;have qH:=av.n;obtain⟨gK,⟨j,i,w⟩,rfl⟩:∃ gK e,au=gK++[e]:=by
  rcases List.eq_nil_or_concat au with h | ⟨r,e,h⟩;·exact(bB h).elim
  ·exact⟨r,e,by simpa using h⟩
 have m9:gK.length+1=n:=by have U:=ep.len;rw[Ct]at U;simp at U;omega
 have an:j<t.ns.length:=hx (j,i,w) (by simp);have ij:j<t.n:=by omega
 cases x4 with
 |none=>have:=(ep.nil rfl).1;simp only at this;omega| some cu=>
 obtain⟨e3,lI,kK,iP⟩:=ep.cap cu rfl;simp only at e3 lI kK iP;have hv:(m8 gK).length=(n-1)*3:=by rw[Ct];omega
 obtain⟨a2,k'⟩:∃ a2,aJ=m8 gK++([.int .i64 j,.int .i64 i,.bool w]++a2):=by refine⟨aJ.drop (n*3),?_⟩;have aa:=uB (n*3) aJ;rw[iP,yc,gl]at aa;exact aa.symm
 have X7:aJ[(n-1)*3+0]?=some (.int .i64 j):=by rw[k',<-hv,mS (by omega)];simp
 have p4:aJ[(n-1)*3+1]?=some (.int .i64 i):=by rw[k',<-hv,mS (by omega)];simp
 have FK:aJ[(n-1)*3+2]?=some (.bool w):=by rw[k',<-hv,mS (by omega)];simp
 have Cw:=PD (aW:=aW) al;have kP:x.cd.length<=2412*t.ns.length:=by have:=congrArg List.length lO;rw[cU]at this;omega
 have PN:=PF t.ns (gK++[(j,i,w)]);simp only[cU,e1,jh]at PN;have h1:=wh.ns t.ns[j] (dK an);have dR:=h1.kn;have j':=FE (Fi al an);obtain⟨ad,b7,bs⟩:=wh.bd.row a9.de ij an;rw[ya]at lO;rw[p3]at PM aG PN;have wi:IntKind.i64.wrap ((n:Int)-1)=((n-1:Nat):Int):=by rw[wrap_i64 ⟨by omega,by omega⟩];omega
 refine a5.mk (((n-1:Nat)):Int) wi ?_;refine bc.mk ⟨cu,0,none⟩ (n-1) rfl rfl (by show n-1<n;omega) ?_;refine cW.draw aV rfl rfl rfl ?_;refine aF.mk [.int .i64 j] (k9 (b:=cu) (cs:=aJ) (T:=347) (by simp[bk.aY]) X7) ?_;refine bc.mk ad j b7 rfl ij ?_;refine aF.mk _ (bs _) ?_;refine cz.mk λbQ FL PO=>?_;refine cg.mk [] (⟨cu,.cells aJ.toArray 347 (0,0)⟩::x.M g) _ _ rfl rfl (bJ rfl) rfl ?_;refine aF.mk [.int .i64 i] (k9 (b:=cu) (cs:=aJ) (T:=347) (by simp[bk.aY]) p4) ?_;refine a0.mk (λU=>?_) (λU=>?_)
 ·refine aF.mk [.bool w] (k9 (b:=cu) (cs:=aJ) (T:=347) (by simp[bk.aY]) FK) ?_;refine a0.mk (λaa=>?_) (λaa=>?_)
  ·refine bb.mk (x.M g) [⟨bQ,.cells t.ns[j].cells.toArray 83 (0,0)⟩,⟨cu,.cells aJ.toArray 347 (0,0)⟩] _ (ha (l₁:=[_,_])) (m1 g Cv 40 (by omega)) ?_;rintro v dP dr -⟨rfl,rfl,y,aN,gp,rfl⟩;have Pk:y.cd.length<=2412*t.ns.length+1:=by rw[gp];simp;omega
   refine aF.mk _ (dn (T:=83) (b:=bQ) (cs:=t.ns[j].cells) (k:=0) (n:=9) (by simp) (bJ rfl)) ?_;refine bb.mk [] (y.M g++[⟨bQ,.cells t.ns[j].cells.toArray 83 (0,0)⟩,⟨cu,.cells aJ.toArray 347 (0,0)⟩]) _ (by simp) (Pz ye.d ye.s h1 j') ?_;rintro v dP dr -⟨rfl,ht,rfl⟩;have jJ:∀ b o,dj b=some o->dP b=some o:=λb o h=>ht _ _ (bo _ _ h);have wj:=Jk aW j';refine bb.mk (y.M g) [⟨bQ,.cells t.ns[j].cells.toArray 83 (0,0)⟩,⟨cu,.cells aJ.toArray 347 (0,0)⟩] _ (by simp) (rO g aN _ (by show _+(p2 aW t.ns[j]).length<=_;omega)) ?_;rintro v hL mc -⟨rfl,rfl,u,hu,uJ,rfl⟩;have p5:u.cd=x.cd++mr aW t.ns (j,i,w):=by rw[uJ,gp];simp only[mr,U,aa,tb an,bh,ba];simp[strOf]
   have Pw:u.cd.length<=2412*t.ns.length+2401:=by rw[p5,cU];simp only[mr,U,aa,tb an,bh,ba,cU,e1,jh];omega
   have ms:=b6.mono jJ;have nb:=av.mono jJ;have o8:=nb.ns t.ns[j] (dK an);have wk:∀ {k m:Nat},k+m<=9->ca hL (u.M g++[⟨bQ,.cells t.ns[j].cells.toArray 83 (0,0)⟩,⟨cu,.cells aJ.toArray 347 (0,0)⟩]) ((⟨bQ,0,none⟩:Addr).add k) m ((t.ns[j].cells.drop k).take m):=λh=>dn (T:=83) (by simp) h;refine cW.draw aV rfl rfl rfl ?_;refine aF.mk [.int .i64 i] (k9 (b:=cu) (cs:=aJ) (T:=347) (by simp[bk.aY]) p4) ?_;refine aF.mk _ (wk (by decide)) ?_;refine a0.mk (λae=>?_) (λae=>?_)
   ·have ek:i<t.ns[j].kn:=by simpa using ae
    have o9:i<t.ns[j].aX.length:=by omega
    obtain⟨hq,h2,gI⟩:=o8.bd.one ek o9;have gv:=qP al j an _ (dK o9);obtain⟨q,pb⟩:=oV gv.1;have e5:q<t.ns.length:=by omega
    have mu:q<t.n:=by omega
    obtain⟨pc,uM,uN⟩:=nb.bd.row a9.de mu e5;have uO:∀ M,ca hL M ((pc.add (q*9)).add 0) 1 [.int .u8 t.ns[q].k]:=λM=>(uN M).part (k:=0) (m:=1) (by decide);have rX:mq t.ns ((q:Nat):Int)=t.ns[q].k:=by simp[mq,dh,e5]
    have hy:=Jn (aW:=aW) al an (w:=w) o9;have wm:=Jo al an (w:=w) (w':=gy t.ns[j].k t.ns[q].k) o9;rw[pb]at hy wm;simp only[Fw,oz]at hy wm;rw[rX]at hy;have fq:IntKind.i64.wrap ((i:Int)+1)=((i+1:Nat):Int):=by have:=o8.bd.cap;rw[wrap_i64 ⟨by omega,by omega⟩];omega
    have b0:bu aJ ((n-1)*3+1) [.int .i64 ((i+1:Nat):Int)]=m8 gK++([.int .i64 j,.int .i64 ((i+1:Nat):Int),.bool w]++a2):=by rw[k',<-hv];exact Js _ _ _ _ _ _
    have Cx:bk.ok ⟨some cu,n,er,bu aJ ((n-1)*3+1) [.int .i64 ((i+1:Nat):Int)]⟩ 3 (m8 (gK++[(j,i+1,w)])):=by
     rw[b0,yc];refine⟨by simp only[cU,e1,jh];omega,(λh=>by cases h),λbG _=>⟨?_,lI,kK,?_⟩⟩;·simp only;rw[<-e3,k'];simp
     ·simp only;rw[<-gl];refine qJ ?_;simp only[cU,e1,jh];omega
    refine aF.mk [.int .i64 i] (k9 (b:=cu) (cs:=aJ) (T:=347) (by simp[bk.aY]) p4) ?_;refine a0.mk (λbg=>by simp at U bg;omega) (λbg=>?_);refine cW.draw aV rfl rfl rfl ?_;refine aF.mk _ (dn (T:=83) (b:=bQ) (cs:=t.ns[j].cells) (k:=8) (n:=1) (by simp) (bJ rfl)) ?_;refine aF.mk [.int .i64 i] (k9 (b:=cu) (cs:=aJ) (T:=347) (by simp[bk.aY]) p4) ?_;refine bc.mk hq i h2 rfl ek ?_;refine aF.mk [.int .i64 (q:Nat)] (by have eT:=gI;rw[pb]at eT;exact eT _) ?_;refine aF.mk [.int .i64 i] (k9 (b:=cu) (cs:=aJ) (T:=347) (by simp[bk.aY]) p4) ?_;refine a5.mk ((i+1:Nat):Int) fq ?_;refine cg.v' (u.M g++[⟨bQ,.cells t.ns[j].cells.toArray 83 (0,0)⟩]) [] aJ.toArray 347 (by simp[bk.aY]) ?_ rfl ?_;·simp only[rs];show(n-1)*3+1+1<=_;omega
    refine cW.draw aV rfl rfl rfl ?_;refine aF.mk [.int .u8 t.ns[j].k] (dn (T:=83) (b:=bQ) (cs:=t.ns[j].cells) (k:=0) (n:=1) (by simp) (bJ rfl)) ?_;refine bc.mk pc q uM rfl mu ?_;refine aF.mk [.int .u8 t.ns[q].k] (uO _) ?_;refine fi.mk _ (I7 t.ns[j].k t.ns[q].k) ?_;rintro v yf mW -⟨rfl,rfl,rfl⟩;refine cz.mk λb9 gz yg=>?_;refine bl.append aV rfl (by simp) (e:=347) rfl rfl rfl ⟨some cu,n,er,bu aJ ((n-1)*3+1) [.int .i64 ((i+1:Nat):Int)]⟩ (xs:=m8 (gK++[(j,i+1,w)])) Cx rfl (m:=1) rfl (ct:=lb (q,0,gy t.ns[j].k t.ns[q].k)) (by decide) (dn (b:=b9) (cs:=lb (q,0,gy t.ns[j].k t.ns[q].k)) (k:=0) (n:=3) (T:=347) (.head _) (bJ rfl)) rfl (Mr:=⟨b9,.cells (lb (q,0,gy t.ns[j].k t.ns[q].k)).toArray 347 (0,0)⟩::(u.M g++[⟨bQ,.cells t.ns[j].cells.toArray 83 (0,0)⟩])) (by exact ha (l₁:=(⟨b9,.cells (lb (q,0,gy t.ns[j].k t.ns[q].k)).toArray 347 (0,0)⟩:ay)::(u.M g++[⟨bQ,.cells t.ns[j].cells.toArray 83 (0,0)⟩])) (l₂:=[⟨cu,.cells (bu aJ ((n-1)*3+1) [.int .i64 ((i+1:Nat):Int)]).toArray 347 (0,0)⟩])) (by show n+1<=_;simp only[maxLen];omega) (by show(n+1)*24<=_;omega) ?_;intro dD c' iw eY ez ga jk;refine⟨(g,u,⟨some dD,n+1,c',iw⟩,gK++[(j,i+1,w)]++[(q,0,gy t.ns[j].k t.ns[q].k)],_),aG _ ⟨jJ,hu,⟨?_,(λh=>by cases h),λbG _=>⟨eY,ez,ga,?_⟩⟩,by simp,?_,?_,?_⟩ ?_,.perm (M1:=[⟨b9,.cells (lb (q,0,gy t.ns[j].k t.ns[q].k)).toArray 347 (0,0)⟩,⟨bQ,.cells t.ns[j].cells.toArray 83 (0,0)⟩]++(⟨dD,.cells iw.toArray 347 (0,0)⟩::u.M g)) (Jr _ _ _ _) (.sub (kH _ _) .refl),fZ,.cons rfl .nil⟩;·show _=(n+1)*3;rw[Ct];simp;omega
    ·show iw.take ((n+1)*3)=_;rw[yc (gK++[(j,i+1,w)])];exact jk
    ·intro e he;simp only[eb,iY]at he;rcases he with(he | rfl) | rfl
     ·exact hx e (by simp[he])
     ·exact an
     ·exact e5
    ·simp only;rw[ya,ya,p5,<-lO,hy];rw[show decide (0<(i:Int))=false from bg];simp
    ·simp only;rw[p3,p3];omega
    ·simp only;rw[p3,p3];omega
   ·have ek:t.ns[j].aX.length<=i:=by simp at ae;omega
    have hy:=Jp (aW:=aW) an (w:=w) ek;have oY:=FH t.ns[j];refine aF.mk _ (dn (T:=83) (b:=bQ) (cs:=t.ns[j].cells) (k:=0) (n:=9) (by simp) (bJ rfl)) ?_;refine bb.mk [] (u.M g++[⟨bQ,.cells t.ns[j].cells.toArray 83 (0,0)⟩,⟨cu,.cells aJ.toArray 347 (0,0)⟩]) _ (.refl _) (Jj ms.c ms.p ms.s o8 j') ?_;rintro v yf mW -⟨rfl,rfl,rfl⟩;refine bb.mk (u.M g) [⟨bQ,.cells t.ns[j].cells.toArray 83 (0,0)⟩,⟨cu,.cells aJ.toArray 347 (0,0)⟩] _ (by simp) (rO g hu _ (by show _+(n1 t.ns[j]).length<=_;omega)) ?_;rintro v FM Jv -⟨rfl,rfl,a,aC,iR,rfl⟩;have PP:a.cd.length<=2412*t.ns.length+2410:=by rw[iR,cU];show _+(n1 t.ns[j]).length<=_;omega
    refine aF.mk [.bool w] (k9 (b:=cu) (cs:=aJ) (T:=347) (by simp[bk.aY]) FK) ?_;refine a0.mk (λhw=>?_) (λhw=>?_)
    ·subst hw;refine bb.mk (a.M g) [⟨bQ,.cells t.ns[j].cells.toArray 83 (0,0)⟩,⟨cu,.cells aJ.toArray 347 (0,0)⟩] _ (by simp) (m1 g aC 41 (by omega)) ?_;rintro v PQ PR -⟨rfl,rfl,c,aL,hZ,rfl⟩;refine a5.mk (((n-1:Nat)):Int) wi ?_;refine ie.mk 0 (n-1) rfl rfl (bq _) (by show n-1<=er;omega) ?_;refine a0.mk (λbg=>?_) (λbg=>?_)
     ·have jb:0<n-1:=by simp at bg;omega
      refine⟨(g,c,⟨some cu,n-1,er,aJ⟩,gK,_),aG _ ⟨jJ,aL,⟨?_,(λh=>by cases h),λbG _=>⟨e3,by show n-1<=er;omega,kK,?_⟩⟩,?_,λe he=>hx e (by simp[he]),?_,?_⟩ ?_,.perm (M1:=[⟨bQ,.cells t.ns[j].cells.toArray 83 (0,0)⟩]++(⟨cu,.cells aJ.toArray 347 (0,0)⟩::c.M g)) (ha (l₂:=[_,_])) (.sub (kH _ _) .refl),fZ,.cons rfl .nil⟩;·exact hv
      ·show aJ.take ((n-1)*3)=_;rw[k',<-hv];exact qJ rfl
      ·intro h;simp only at h;rw[h]at m9;simp at m9;omega
      ·simp only;rw[hZ,iR,p5,<-lO,hy];simp[strOf]
      ·simp only;omega
      ·simp only[lN];omega
     ·have jb:n-1=0:=by simp at bg;omega
      have rY:gK=[]:=l' (by omega);have mv:c.cd=la aW t.ns t.b1:=by rw[hZ,iR,p5,<-lO,hy,rY];simp[rW,strOf]
      refine bb.mk (c.M g) [⟨bQ,.cells t.ns[j].cells.toArray 83 (0,0)⟩,⟨cu,.cells aJ.toArray 347 (0,0)⟩] _ (by simp) (uI g aL (by rw[mv];omega)) ?_;rintro v z3 z4 -⟨rfl,rfl,rfl⟩;refine⟨_,_,.sub (ho _) .refl,?_,jJ,rfl⟩;rw[mv];rfl
    ·subst hw;refine a5.mk (((n-1:Nat)):Int) wi ?_;refine ie.mk 0 (n-1) rfl rfl (bq _) (by show n-1<=er;omega) ?_;refine a0.mk (λbg=>?_) (λbg=>?_)
     ·have jb:0<n-1:=by simp at bg;omega
      refine⟨(g,a,⟨some cu,n-1,er,aJ⟩,gK,_),aG _ ⟨jJ,aC,⟨?_,(λh=>by cases h),λbG _=>⟨e3,by show n-1<=er;omega,kK,?_⟩⟩,?_,λe he=>hx e (by simp[he]),?_,?_⟩ ?_,.perm (M1:=[⟨bQ,.cells t.ns[j].cells.toArray 83 (0,0)⟩]++(⟨cu,.cells aJ.toArray 347 (0,0)⟩::a.M g)) (ha (l₂:=[_,_])) (.sub (kH _ _) .refl),fZ,.cons rfl .nil⟩;·exact hv
      ·show aJ.take ((n-1)*3)=_;rw[k',<-hv];exact qJ rfl
      ·intro h;simp only at h;rw[h]at m9;simp at m9;omega
      ·simp only;rw[iR,p5,<-lO,hy];simp[strOf]
      ·simp only;omega
      ·simp only[lN];omega
     ·have jb:n-1=0:=by simp at bg;omega
      have rY:gK=[]:=l' (by omega);have mv:a.cd=la aW t.ns t.b1:=by rw[iR,p5,<-lO,hy,rY];simp[rW,strOf]
      refine bb.mk (a.M g) [⟨bQ,.cells t.ns[j].cells.toArray 83 (0,0)⟩,⟨cu,.cells aJ.toArray 347 (0,0)⟩] _ (by simp) (uI g aC (by rw[mv];omega)) ?_;rintro v z3 z4 -⟨rfl,rfl,rfl⟩;refine⟨_,_,.sub (ho _) .refl,?_,jJ,rfl⟩;rw[mv];rfl
  ·refine aF.mk _ (dn (T:=83) (b:=bQ) (cs:=t.ns[j].cells) (k:=0) (n:=9) (.head _) (bJ rfl)) ?_;refine bb.mk [] (⟨bQ,.cells t.ns[j].cells.toArray 83 (0,0)⟩::⟨cu,.cells aJ.toArray 347 (0,0)⟩::x.M g) _ (.refl _) (Pz ye.d ye.s h1 j') ?_;rintro v dP dr -⟨rfl,ht,rfl⟩;have jJ:∀ b o,dj b=some o->dP b=some o:=λb o h=>ht _ _ (bo _ _ h);have wj:=Jk aW j';refine bb.mk (x.M g) [⟨bQ,.cells t.ns[j].cells.toArray 83 (0,0)⟩,⟨cu,.cells aJ.toArray 347 (0,0)⟩] _ (ha (l₁:=[_,_])) (rO g Cv _ (by show _+(p2 aW t.ns[j]).length<=_;omega)) ?_;rintro v hL mc -⟨rfl,rfl,u,hu,uJ,rfl⟩;have p5:u.cd=x.cd++mr aW t.ns (j,i,w):=by rw[uJ];simp only[mr,U,aa,tb an,bh,ba];simp[strOf]
   have Pw:u.cd.length<=2412*t.ns.length+2401:=by rw[p5,cU];simp only[mr,U,aa,tb an,bh,ba,cU,e1,jh];omega
   have ms:=b6.mono jJ;have nb:=av.mono jJ;have o8:=nb.ns t.ns[j] (dK an);have wk:∀ {k m:Nat},k+m<=9->ca hL (u.M g++[⟨bQ,.cells t.ns[j].cells.toArray 83 (0,0)⟩,⟨cu,.cells aJ.toArray 347 (0,0)⟩]) ((⟨bQ,0,none⟩:Addr).add k) m ((t.ns[j].cells.drop k).take m):=λh=>dn (T:=83) (by simp) h;refine cW.draw aV rfl rfl rfl ?_;refine aF.mk [.int .i64 i] (k9 (b:=cu) (cs:=aJ) (T:=347) (by simp[bk.aY]) p4) ?_;refine aF.mk _ (wk (by decide)) ?_;refine a0.mk (λae=>?_) (λae=>?_)
   ·have ek:i<t.ns[j].kn:=by simpa using ae
    have o9:i<t.ns[j].aX.length:=by omega
    obtain⟨hq,h2,gI⟩:=o8.bd.one ek o9;have gv:=qP al j an _ (dK o9);obtain⟨q,pb⟩:=oV gv.1;have e5:q<t.ns.length:=by omega
    have mu:q<t.n:=by omega
    obtain⟨pc,uM,uN⟩:=nb.bd.row a9.de mu e5;have uO:∀ M,ca hL M ((pc.add (q*9)).add 0) 1 [.int .u8 t.ns[q].k]:=λM=>(uN M).part (k:=0) (m:=1) (by decide);have rX:mq t.ns ((q:Nat):Int)=t.ns[q].k:=by simp[mq,dh,e5]
    have hy:=Jn (aW:=aW) al an (w:=w) o9;have wm:=Jo al an (w:=w) (w':=gy t.ns[j].k t.ns[q].k) o9;rw[pb]at hy wm;simp only[Fw,oz]at hy wm;rw[rX]at hy;have fq:IntKind.i64.wrap ((i:Int)+1)=((i+1:Nat):Int):=by have:=o8.bd.cap;rw[wrap_i64 ⟨by omega,by omega⟩];omega
    have b0:bu aJ ((n-1)*3+1) [.int .i64 ((i+1:Nat):Int)]=m8 gK++([.int .i64 j,.int .i64 ((i+1:Nat):Int),.bool w]++a2):=by rw[k',<-hv];exact Js _ _ _ _ _ _
    have Cx:bk.ok ⟨some cu,n,er,bu aJ ((n-1)*3+1) [.int .i64 ((i+1:Nat):Int)]⟩ 3 (m8 (gK++[(j,i+1,w)])):=by
     rw[b0,yc];refine⟨by simp only[cU,e1,jh];omega,(λh=>by cases h),λbG _=>⟨?_,lI,kK,?_⟩⟩;·simp only;rw[<-e3,k'];simp
     ·simp only;rw[<-gl];refine qJ ?_;simp only[cU,e1,jh];omega
    refine aF.mk [.int .i64 i] (k9 (b:=cu) (cs:=aJ) (T:=347) (by simp[bk.aY]) p4) ?_;refine a0.mk (λbg=>by simp at U bg;omega) (λbg=>?_);refine cW.draw aV rfl rfl rfl ?_;refine aF.mk _ (dn (T:=83) (b:=bQ) (cs:=t.ns[j].cells) (k:=8) (n:=1) (by simp) (bJ rfl)) ?_;refine aF.mk [.int .i64 i] (k9 (b:=cu) (cs:=aJ) (T:=347) (by simp[bk.aY]) p4) ?_;refine bc.mk hq i h2 rfl ek ?_;refine aF.mk [.int .i64 (q:Nat)] (by have eT:=gI;rw[pb]at eT;exact eT _) ?_;refine aF.mk [.int .i64 i] (k9 (b:=cu) (cs:=aJ) (T:=347) (by simp[bk.aY]) p4) ?_;refine a5.mk ((i+1:Nat):Int) fq ?_;refine cg.v' (u.M g++[⟨bQ,.cells t.ns[j].cells.toArray 83 (0,0)⟩]) [] aJ.toArray 347 (by simp[bk.aY]) ?_ rfl ?_;·simp only[rs];show(n-1)*3+1+1<=_;omega
    refine cW.draw aV rfl rfl rfl ?_;refine aF.mk [.int .u8 t.ns[j].k] (dn (T:=83) (b:=bQ) (cs:=t.ns[j].cells) (k:=0) (n:=1) (by simp) (bJ rfl)) ?_;refine bc.mk pc q uM rfl mu ?_;refine aF.mk [.int .u8 t.ns[q].k] (uO _) ?_;refine fi.mk _ (I7 t.ns[j].k t.ns[q].k) ?_;rintro v yf mW -⟨rfl,rfl,rfl⟩;refine cz.mk λb9 gz yg=>?_;refine bl.append aV rfl (by simp) (e:=347) rfl rfl rfl ⟨some cu,n,er,bu aJ ((n-1)*3+1) [.int .i64 ((i+1:Nat):Int)]⟩ (xs:=m8 (gK++[(j,i+1,w)])) Cx rfl (m:=1) rfl (ct:=lb (q,0,gy t.ns[j].k t.ns[q].k)) (by decide) (dn (b:=b9) (cs:=lb (q,0,gy t.ns[j].k t.ns[q].k)) (k:=0) (n:=3) (T:=347) (.head _) (bJ rfl)) rfl (Mr:=⟨b9,.cells (lb (q,0,gy t.ns[j].k t.ns[q].k)).toArray 347 (0,0)⟩::(u.M g++[⟨bQ,.cells t.ns[j].cells.toArray 83 (0,0)⟩])) (by exact ha (l₁:=(⟨b9,.cells (lb (q,0,gy t.ns[j].k t.ns[q].k)).toArray 347 (0,0)⟩:ay)::(u.M g++[⟨bQ,.cells t.ns[j].cells.toArray 83 (0,0)⟩])) (l₂:=[⟨cu,.cells (bu aJ ((n-1)*3+1) [.int .i64 ((i+1:Nat):Int)]).toArray 347 (0,0)⟩])) (by show n+1<=_;simp only[maxLen];omega) (by show(n+1)*24<=_;omega) ?_;intro dD c' iw eY ez ga jk;refine⟨(g,u,⟨some dD,n+1,c',iw⟩,gK++[(j,i+1,w)]++[(q,0,gy t.ns[j].k t.ns[q].k)],_),aG _ ⟨jJ,hu,⟨?_,(λh=>by cases h),λbG _=>⟨eY,ez,ga,?_⟩⟩,by simp,?_,?_,?_⟩ ?_,.perm (M1:=[⟨b9,.cells (lb (q,0,gy t.ns[j].k t.ns[q].k)).toArray 347 (0,0)⟩,⟨bQ,.cells t.ns[j].cells.toArray 83 (0,0)⟩]++(⟨dD,.cells iw.toArray 347 (0,0)⟩::u.M g)) (Jr _ _ _ _) (.sub (kH _ _) .refl),fZ,.cons rfl .nil⟩;·show _=(n+1)*3;rw[Ct];simp;omega
    ·show iw.take ((n+1)*3)=_;rw[yc (gK++[(j,i+1,w)])];exact jk
    ·intro e he;simp only[eb,iY]at he;rcases he with(he | rfl) | rfl
     ·exact hx e (by simp[he])
     ·exact an
     ·exact e5
    ·simp only;rw[ya,ya,p5,<-lO,hy];rw[show decide (0<(i:Int))=false from bg];simp
    ·simp only;rw[p3,p3];omega
    ·simp only;rw[p3,p3];omega
   ·have ek:t.ns[j].aX.length<=i:=by simp at ae;omega
    have hy:=Jp (aW:=aW) an (w:=w) ek;have oY:=FH t.ns[j];refine aF.mk _ (dn (T:=83) (b:=bQ) (cs:=t.ns[j].cells) (k:=0) (n:=9) (by simp) (bJ rfl)) ?_;refine bb.mk [] (u.M g++[⟨bQ,.cells t.ns[j].cells.toArray 83 (0,0)⟩,⟨cu,.cells aJ.toArray 347 (0,0)⟩]) _ (.refl _) (Jj ms.c ms.p ms.s o8 j') ?_;rintro v yf mW -⟨rfl,rfl,rfl⟩;refine bb.mk (u.M g) [⟨bQ,.cells t.ns[j].cells.toArray 83 (0,0)⟩,⟨cu,.cells aJ.toArray 347 (0,0)⟩] _ (by simp) (rO g hu _ (by show _+(n1 t.ns[j]).length<=_;omega)) ?_;rintro v FM Jv -⟨rfl,rfl,a,aC,iR,rfl⟩;have PP:a.cd.length<=2412*t.ns.length+2410:=by rw[iR,cU];show _+(n1 t.ns[j]).length<=_;omega
    refine aF.mk [.bool w] (k9 (b:=cu) (cs:=aJ) (T:=347) (by simp[bk.aY]) FK) ?_;refine a0.mk (λhw=>?_) (λhw=>?_)
    ·subst hw;refine bb.mk (a.M g) [⟨bQ,.cells t.ns[j].cells.toArray 83 (0,0)⟩,⟨cu,.cells aJ.toArray 347 (0,0)⟩] _ (by simp) (m1 g aC 41 (by omega)) ?_;rintro v PQ PR -⟨rfl,rfl,c,aL,hZ,rfl⟩;refine a5.mk (((n-1:Nat)):Int) wi ?_;refine ie.mk 0 (n-1) rfl rfl (bq _) (by show n-1<=er;omega) ?_;refine a0.mk (λbg=>?_) (λbg=>?_)
     ·have jb:0<n-1:=by simp at bg;omega
      refine⟨(g,c,⟨some cu,n-1,er,aJ⟩,gK,_),aG _ ⟨jJ,aL,⟨?_,(λh=>by cases h),λbG _=>⟨e3,by show n-1<=er;omega,kK,?_⟩⟩,?_,λe he=>hx e (by simp[he]),?_,?_⟩ ?_,.perm (M1:=[⟨bQ,.cells t.ns[j].cells.toArray 83 (0,0)⟩]++(⟨cu,.cells aJ.toArray 347 (0,0)⟩::c.M g)) (ha (l₂:=[_,_])) (.sub (kH _ _) .refl),fZ,.cons rfl .nil⟩;·exact hv
      ·show aJ.take ((n-1)*3)=_;rw[k',<-hv];exact qJ rfl
      ·intro h;simp only at h;rw[h]at m9;simp at m9;omega
      ·simp only;rw[hZ,iR,p5,<-lO,hy];simp[strOf]
      ·simp only;omega
      ·simp only[lN];omega
     ·have jb:n-1=0:=by simp at bg;omega
      have rY:gK=[]:=l' (by omega);have mv:c.cd=la aW t.ns t.b1:=by rw[hZ,iR,p5,<-lO,hy,rY];simp[rW,strOf]
      refine bb.mk (c.M g) [⟨bQ,.cells t.ns[j].cells.toArray 83 (0,0)⟩,⟨cu,.cells aJ.toArray 347 (0,0)⟩] _ (by simp) (uI g aL (by rw[mv];omega)) ?_;rintro v z3 z4 -⟨rfl,rfl,rfl⟩;refine⟨_,_,.sub (ho _) .refl,?_,jJ,rfl⟩;rw[mv];rfl
    ·subst hw;refine a5.mk (((n-1:Nat)):Int) wi ?_;refine ie.mk 0 (n-1) rfl rfl (bq _) (by show n-1<=er;omega) ?_;refine a0.mk (λbg=>?_) (λbg=>?_)
     ·have jb:0<n-1:=by simp at bg;omega
      refine⟨(g,a,⟨some cu,n-1,er,aJ⟩,gK,_),aG _ ⟨jJ,aC,⟨?_,(λh=>by cases h),λbG _=>⟨e3,by show n-1<=er;omega,kK,?_⟩⟩,?_,λe he=>hx e (by simp[he]),?_,?_⟩ ?_,.perm (M1:=[⟨bQ,.cells t.ns[j].cells.toArray 83 (0,0)⟩]++(⟨cu,.cells aJ.toArray 347 (0,0)⟩::a.M g)) (ha (l₂:=[_,_])) (.sub (kH _ _) .refl),fZ,.cons rfl .nil⟩;·exact hv
      ·show aJ.take ((n-1)*3)=_;rw[k',<-hv];exact qJ rfl
      ·intro h;simp only at h;rw[h]at m9;simp at m9;omega
      ·simp only;rw[iR,p5,<-lO,hy];simp[strOf]
      ·simp only;omega
      ·simp only[lN];omega
     ·have jb:n-1=0:=by simp at bg;omega
      have rY:gK=[]:=l' (by omega);have mv:a.cd=la aW t.ns t.b1:=by rw[iR,p5,<-lO,hy,rY];simp[rW,strOf]
      refine bb.mk (a.M g) [⟨bQ,.cells t.ns[j].cells.toArray 83 (0,0)⟩,⟨cu,.cells aJ.toArray 347 (0,0)⟩] _ (by simp) (uI g aC (by rw[mv];omega)) ?_;rintro v z3 z4 -⟨rfl,rfl,rfl⟩;refine⟨_,_,.sub (ho _) .refl,?_,jJ,rfl⟩;rw[mv];rfl
 ·have ah0:x.cd=x.cd++mr aW t.ns (j,i,w):=by simp only[mr,U,ba,dF]
  have ms:=b6.mono bo;have nb:=av.mono bo;have o8:=nb.ns t.ns[j] (dK an);have wk:∀ {k m:Nat},k+m<=9->ca cL (⟨bQ,.cells t.ns[j].cells.toArray 83 (0,0)⟩::⟨cu,.cells aJ.toArray 347 (0,0)⟩::x.M g) ((⟨bQ,0,none⟩:Addr).add k) m ((t.ns[j].cells.drop k).take m):=λh=>dn (T:=83) (by simp) h;refine cW.draw aV rfl rfl rfl ?_;refine aF.mk [.int .i64 i] (k9 (b:=cu) (cs:=aJ) (T:=347) (by simp[bk.aY]) p4) ?_;refine aF.mk _ (wk (by decide)) ?_;refine a0.mk (λae=>?_) (λae=>?_)
  ·have ek:i<t.ns[j].kn:=by simpa using ae
   have o9:i<t.ns[j].aX.length:=by omega
   obtain⟨hq,h2,gI⟩:=o8.bd.one ek o9;have gv:=qP al j an _ (dK o9);obtain⟨q,pb⟩:=oV gv.1;have e5:q<t.ns.length:=by omega
   have mu:q<t.n:=by omega
   obtain⟨pc,uM,uN⟩:=nb.bd.row a9.de mu e5;have uO:∀ M,ca cL M ((pc.add (q*9)).add 0) 1 [.int .u8 t.ns[q].k]:=λM=>(uN M).part (k:=0) (m:=1) (by decide);have rX:mq t.ns ((q:Nat):Int)=t.ns[q].k:=by simp[mq,dh,e5]
   have hy:=Jn (aW:=aW) al an (w:=w) o9;have wm:=Jo al an (w:=w) (w':=gy t.ns[j].k t.ns[q].k) o9;rw[pb]at hy wm;simp only[Fw,oz]at hy wm;rw[rX]at hy;have fq:IntKind.i64.wrap ((i:Int)+1)=((i+1:Nat):Int):=by have:=o8.bd.cap;rw[wrap_i64 ⟨by omega,by omega⟩];omega
   have b0:bu aJ ((n-1)*3+1) [.int .i64 ((i+1:Nat):Int)]=m8 gK++([.int .i64 j,.int .i64 ((i+1:Nat):Int),.bool w]++a2):=by rw[k',<-hv];exact Js _ _ _ _ _ _
   have Cx:bk.ok ⟨some cu,n,er,bu aJ ((n-1)*3+1) [.int .i64 ((i+1:Nat):Int)]⟩ 3 (m8 (gK++[(j,i+1,w)])):=by
    rw[b0,yc];refine⟨by simp only[cU,e1,jh];omega,(λh=>by cases h),λbG _=>⟨?_,lI,kK,?_⟩⟩;·simp only;rw[<-e3,k'];simp
    ·simp only;rw[<-gl];refine qJ ?_;simp only[cU,e1,jh];omega
   refine aF.mk [.int .i64 i] (k9 (b:=cu) (cs:=aJ) (T:=347) (by simp[bk.aY]) p4) ?_;refine a0.mk (λbg=>?_) (λbg=>by simp at U bg;omega);refine aF.mk [.int .u8 t.ns[j].k] (dn (T:=83) (b:=bQ) (cs:=t.ns[j].cells) (k:=0) (n:=1) (.head _) (bJ rfl)) ?_;refine cH.mk t.ns[j].k.toNat (by have:=o8.k;omega) (by have:=j'.k;have:=o8.k;omega) ?_;refine aF.mk _ (ms.s.rd _ (by have:=j'.k;have:=o8.k;show t.ns[j].k.toNat*3+1<30;omega)) ?_;refine bb.mk (x.M g) [⟨bQ,.cells t.ns[j].cells.toArray 83 (0,0)⟩,⟨cu,.cells aJ.toArray 347 (0,0)⟩] _ (ha (l₁:=[_,_])) (rO g Cv _ (by have:=Cq (t.ns[j].k.toNat*3+1);show _+(p1 (t.ns[j].k.toNat*3+1)).length<=_;omega)) ?_;rintro v mf nQ -⟨rfl,rfl,z,Jw,X8,rfl⟩;have qQ:z.cd=x.cd++Cr t.ns[j]:=X8;refine cW.draw aV rfl rfl rfl ?_;refine aF.mk _ (dn (T:=83) (b:=bQ) (cs:=t.ns[j].cells) (k:=8) (n:=1) (by simp) (bJ rfl)) ?_;refine aF.mk [.int .i64 i] (k9 (b:=cu) (cs:=aJ) (T:=347) (by simp[bk.aY]) p4) ?_;refine bc.mk hq i h2 rfl ek ?_;refine aF.mk [.int .i64 (q:Nat)] (by have eT:=gI;rw[pb]at eT;exact eT _) ?_;refine aF.mk [.int .i64 i] (k9 (b:=cu) (cs:=aJ) (T:=347) (by simp[bk.aY]) p4) ?_;refine a5.mk ((i+1:Nat):Int) fq ?_;refine cg.v' (z.M g++[⟨bQ,.cells t.ns[j].cells.toArray 83 (0,0)⟩]) [] aJ.toArray 347 (by simp[bk.aY]) ?_ rfl ?_;·simp only[rs];show(n-1)*3+1+1<=_;omega
   refine cW.draw aV rfl rfl rfl ?_;refine aF.mk [.int .u8 t.ns[j].k] (dn (T:=83) (b:=bQ) (cs:=t.ns[j].cells) (k:=0) (n:=1) (by simp) (bJ rfl)) ?_;refine bc.mk pc q uM rfl mu ?_;refine aF.mk [.int .u8 t.ns[q].k] (uO _) ?_;refine fi.mk _ (I7 t.ns[j].k t.ns[q].k) ?_;rintro v yf mW -⟨rfl,rfl,rfl⟩;refine cz.mk λb9 gz yg=>?_;refine bl.append aV rfl (by simp) (e:=347) rfl rfl rfl ⟨some cu,n,er,bu aJ ((n-1)*3+1) [.int .i64 ((i+1:Nat):Int)]⟩ (xs:=m8 (gK++[(j,i+1,w)])) Cx rfl (m:=1) rfl (ct:=lb (q,0,gy t.ns[j].k t.ns[q].k)) (by decide) (dn (b:=b9) (cs:=lb (q,0,gy t.ns[j].k t.ns[q].k)) (k:=0) (n:=3) (T:=347) (.head _) (bJ rfl)) rfl (Mr:=⟨b9,.cells (lb (q,0,gy t.ns[j].k t.ns[q].k)).toArray 347 (0,0)⟩::(z.M g++[⟨bQ,.cells t.ns[j].cells.toArray 83 (0,0)⟩])) (by exact ha (l₁:=(⟨b9,.cells (lb (q,0,gy t.ns[j].k t.ns[q].k)).toArray 347 (0,0)⟩:ay)::(z.M g++[⟨bQ,.cells t.ns[j].cells.toArray 83 (0,0)⟩])) (l₂:=[⟨cu,.cells (bu aJ ((n-1)*3+1) [.int .i64 ((i+1:Nat):Int)]).toArray 347 (0,0)⟩])) (by show n+1<=_;simp only[maxLen];omega) (by show(n+1)*24<=_;omega) ?_;intro dD c' iw eY ez ga jk;refine⟨(g,z,⟨some dD,n+1,c',iw⟩,gK++[(j,i+1,w)]++[(q,0,gy t.ns[j].k t.ns[q].k)],_),aG _ ⟨bo,Jw,⟨?_,(λh=>by cases h),λbG _=>⟨eY,ez,ga,?_⟩⟩,by simp,?_,?_,?_⟩ ?_,.perm (M1:=[⟨b9,.cells (lb (q,0,gy t.ns[j].k t.ns[q].k)).toArray 347 (0,0)⟩,⟨bQ,.cells t.ns[j].cells.toArray 83 (0,0)⟩]++(⟨dD,.cells iw.toArray 347 (0,0)⟩::z.M g)) (Jr _ _ _ _) (.sub (kH _ _) .refl),fZ,.cons rfl .nil⟩;·show _=(n+1)*3;rw[Ct];simp;omega
   ·show iw.take ((n+1)*3)=_;rw[yc (gK++[(j,i+1,w)])];exact jk
   ·intro e he;simp only[eb,iY]at he;rcases he with(he | rfl) | rfl
    ·exact hx e (by simp[he])
    ·exact an
    ·exact e5
   ·simp only;rw[ya,ya,qQ,<-lO,hy];rw[show decide (0<(i:Int))=true from bg,show mr aW t.ns (j,i,w)=[]from by simp only[mr,U,ba]];simp
   ·simp only;rw[p3,p3];omega
   ·simp only;rw[p3,p3];omega
  ·have ek:t.ns[j].aX.length<=i:=by simp at ae;omega
   have X9:=Jp (aW:=aW) an (w:=w) ek;have hy:rV aW t.ns (j,i,w)=n1 t.ns[j]++(bif w then [41]else []):=by rw[X9];simp only[mr,U,ba,mT]
   have oY:=FH t.ns[j];refine aF.mk _ (dn (T:=83) (b:=bQ) (cs:=t.ns[j].cells) (k:=0) (n:=9) (.head _) (bJ rfl)) ?_;refine bb.mk [] (⟨bQ,.cells t.ns[j].cells.toArray 83 (0,0)⟩::⟨cu,.cells aJ.toArray 347 (0,0)⟩::x.M g) _ (.refl _) (Jj ms.c ms.p ms.s o8 j') ?_;rintro v yf mW -⟨rfl,rfl,rfl⟩;refine bb.mk (x.M g) [⟨bQ,.cells t.ns[j].cells.toArray 83 (0,0)⟩,⟨cu,.cells aJ.toArray 347 (0,0)⟩] _ (ha (l₁:=[_,_])) (rO g Cv _ (by show _+(n1 t.ns[j]).length<=_;omega)) ?_;rintro v FM Jv -⟨rfl,rfl,a,aC,iR,rfl⟩;have PP:a.cd.length<=2412*t.ns.length+2410:=by rw[iR,cU];show _+(n1 t.ns[j]).length<=_;omega
   refine aF.mk [.bool w] (k9 (b:=cu) (cs:=aJ) (T:=347) (by simp[bk.aY]) FK) ?_;refine a0.mk (λhw=>?_) (λhw=>?_)
   ·subst hw;refine bb.mk (a.M g) [⟨bQ,.cells t.ns[j].cells.toArray 83 (0,0)⟩,⟨cu,.cells aJ.toArray 347 (0,0)⟩] _ (by simp) (m1 g aC 41 (by omega)) ?_;rintro v PQ PR -⟨rfl,rfl,c,aL,hZ,rfl⟩;refine a5.mk (((n-1:Nat)):Int) wi ?_;refine ie.mk 0 (n-1) rfl rfl (bq _) (by show n-1<=er;omega) ?_;refine a0.mk (λbg=>?_) (λbg=>?_)
    ·have jb:0<n-1:=by simp at bg;omega
     refine⟨(g,c,⟨some cu,n-1,er,aJ⟩,gK,_),aG _ ⟨bo,aL,⟨?_,(λh=>by cases h),λbG _=>⟨e3,by show n-1<=er;omega,kK,?_⟩⟩,?_,λe he=>hx e (by simp[he]),?_,?_⟩ ?_,.perm (M1:=[⟨bQ,.cells t.ns[j].cells.toArray 83 (0,0)⟩]++(⟨cu,.cells aJ.toArray 347 (0,0)⟩::c.M g)) (ha (l₂:=[_,_])) (.sub (kH _ _) .refl),fZ,.cons rfl .nil⟩;·exact hv
     ·show aJ.take ((n-1)*3)=_;rw[k',<-hv];exact qJ rfl
     ·intro h;simp only at h;rw[h]at m9;simp at m9;omega
     ·simp only;rw[hZ,iR,<-lO,hy];simp[strOf]
     ·simp only;omega
     ·simp only[lN];omega
    ·have jb:n-1=0:=by simp at bg;omega
     have rY:gK=[]:=l' (by omega);have mv:c.cd=la aW t.ns t.b1:=by rw[hZ,iR,<-lO,hy,rY];simp[rW,strOf]
     refine bb.mk (c.M g) [⟨bQ,.cells t.ns[j].cells.toArray 83 (0,0)⟩,⟨cu,.cells aJ.toArray 347 (0,0)⟩] _ (by simp) (uI g aL (by rw[mv];omega)) ?_;rintro v z3 z4 -⟨rfl,rfl,rfl⟩;refine⟨_,_,.sub (ho _) .refl,?_,bo,rfl⟩;rw[mv];rfl
   ·subst hw;refine a5.mk (((n-1:Nat)):Int) wi ?_;refine ie.mk 0 (n-1) rfl rfl (bq _) (by show n-1<=er;omega) ?_;refine a0.mk (λbg=>?_) (λbg=>?_)
    ·have jb:0<n-1:=by simp at bg;omega
     refine⟨(g,a,⟨some cu,n-1,er,aJ⟩,gK,_),aG _ ⟨bo,aC,⟨?_,(λh=>by cases h),λbG _=>⟨e3,by show n-1<=er;omega,kK,?_⟩⟩,?_,λe he=>hx e (by simp[he]),?_,?_⟩ ?_,.perm (M1:=[⟨bQ,.cells t.ns[j].cells.toArray 83 (0,0)⟩]++(⟨cu,.cells aJ.toArray 347 (0,0)⟩::a.M g)) (ha (l₂:=[_,_])) (.sub (kH _ _) .refl),fZ,.cons rfl .nil⟩;·exact hv
     ·show aJ.take ((n-1)*3)=_;rw[k',<-hv];exact qJ rfl
     ·intro h;simp only at h;rw[h]at m9;simp at m9;omega
     ·simp only;rw[iR,<-lO,hy];simp[strOf]
     ·simp only;omega
     ·simp only[lN];omega
    ·have jb:n-1=0:=by simp at bg;omega
     have rY:gK=[]:=l' (by omega);have mv:a.cd=la aW t.ns t.b1:=by rw[iR,<-lO,hy,rY];simp[rW,strOf]
     refine bb.mk (a.M g) [⟨bQ,.cells t.ns[j].cells.toArray 83 (0,0)⟩,⟨cu,.cells aJ.toArray 347 (0,0)⟩] _ (by simp) (uI g aC (by rw[mv];omega)) ?_;rintro v z3 z4 -⟨rfl,rfl,rfl⟩;refine⟨_,_,.sub (ho _) .refl,?_,bo,rfl⟩;rw[mv];rfl
def PS{c:Code}{K:jC}{t1 t2 t3:Nat}{a b d:c6}{e:Option (List Value)}(h:∀ G yd,V X c (fG (fG (fG G t3 d) t2 b) t1 a) (hG yd t1 e) I M K)
  (U:F t1=a) (aa:F t2=b) (af:F t3=d) (aR:C t1=e):V X c F C I M K:=by
 have:=h F C;rwa [Jq af,Jq aa,Jq U,X5 aR]at this
def X'(b6:ix I aW)(av:t.ok I)(ax:t.n<=1024):Spec Tryz.prog 244 [t.val] I [] λr I' M'=>r=.string (strOf (o7 aW t))/\(∀ b o,I b=some o->I' b=some o)/\M'=[]:=by
 refine bX [3] aV Tryz.func244 rfl rfl rfl ?_;intro B ao;have qH:=av.n;cases al:right t with
 |true=>
  have Jx:o7 aW t=la aW t.ns t.b1:=by simp[o7,al]
  rw[Jx];have zT:=Cb al;obtain⟨r,pU⟩:=oV zT.1;have gx:r<t.ns.length:=by omega
  obtain⟨ns,FN,pd,FO,b1⟩:=t;simp only at pU;subst pU;have pU:(⟨ns,FN,pd,FO,Int.ofNat r⟩:dG).b1=Int.ofNat r:=rfl;refine cW.scope aV rfl (λy:Nat×Cu=>PK ⟨ns,FN,pd,FO,Int.ofNat r⟩ y.1 y.2) (λ_=>0) (λy=>FJ I aW ⟨ns,FN,pd,FO,Int.ofNat r⟩ y.2) (λy=>ta ns y.2.2.2.1) (λ_=>PJ (FI (Tryz.f244.body.getD .skip)) 0) (λ_ _=>⟨by kernel_rfl,by kernel_rfl⟩) ?_ ?_
  ·refine bb.mk [] [] _ (.refl _) (xX b6.c av) ?_;rintro v I' M' -⟨rfl,rfl,rfl⟩;rw[al];refine a0.mk (λh=>by cases h) (λ_=>?_);refine cz.mk λg aA zU=>?_;refine cz.mk λfk yh ah1=>?_;refine PS (t1:=1) (t2:=3) (t3:=4) (λG yd=>PL b6 av al ax (p:=λl y=>FJ _ aW ⟨ns,FN,pd,FO,Int.ofNat r⟩ y.2/\0=l) (g:=g) (fc.new,⟨some fk,1,1,lb (r,0,false)⟩,[(r,0,false)],I') ?_ (λy aN _=>⟨aN,rfl⟩) B ao G yd) rfl rfl rfl rfl;refine⟨λ_ _ h=>h,fc.Fl,⟨rfl,(λh=>by cases h),λbG _=>⟨rfl,cC _,by simp only[maxLen];omega,rfl⟩⟩,by simp,?_,?_,?_⟩
   ·intro e he;simp only[iY]at he;subst he;exact gx
   ·simp only[rW,List.reverse_singleton,lD,List.flatMap_nil,dF];have eT:=PH (aW:=aW) al gx false;simp only at eT |-;rw[eT];simp[fc.new,paren]
   ·have U:=PI al gx false;have aa:=X4 al;simp only[Fw]at U aa;simp only[ta,dV,mU,qK,List.sum_nil];omega
  ·rintro⟨g,x⟩ab;refine PS (t1:=1) (t2:=3) (t3:=4) (λG yd=>PL b6 av al ax (g:=g) x ab (λy aN aK=>⟨⟨aN,rfl⟩,aK⟩) B ao G yd) rfl rfl rfl rfl
 |false=>
  have Jx:o7 aW t=[]:=by simp[o7,al]
  rw[Jx];refine cW.scope aV rfl (ι:=Empty) (λe=>nomatch e) (λe=>nomatch e) (λe=>nomatch e) (λe=>nomatch e) (λ_=>.skip) (λe=>nomatch e) ?_ (λe=>nomatch e);refine bb.mk [] [] _ (.refl _) (xX b6.c av) ?_;rintro v I' M' -⟨rfl,rfl,rfl⟩;rw[al];refine a0.mk (λ_=>?_) (λh=>by cases h);exact⟨_,_,.refl,rfl,λ_ _ h=>h,rfl⟩
def bE.val(d:bE):Value:=.agg #[.string d.name,.slice d.t.a d.t.n d.t.c,.int .i64 d.t.b1]
def qV(aW:List Int)(d:bE):List UInt8:=
 bif decide (strOf (o7 aW d.t)=⟨#[]⟩) || !kM d.name then []else d.name.data.toList++[32,60,45,32]++o7 aW d.t++[10]
def PT(h:kM s=true):s.size<=32:=by unfold kM at h;simp only[b3,e0]at h;omega
def Ya(aW:List Int)(d:bE):(qV aW d).length<=37+2412*d.t.ns.length:=by
 have U:=PE aW d.t;unfold qV;cases aL:(decide (strOf (o7 aW d.t)=⟨#[]⟩) || !kM d.name)with
 |true=>simp| false=>simp only[oW,Fy]at aL;have aa:=PT aL.2;have af:d.name.data.toList.length=d.name.size:=rfl;simp only[ba,cU,e1,jh];omega
def Yb(b6:ix I aW){d:bE}(ah:d.ok I)(ax:d.t.n<=1024):Spec Tryz.prog 231 [d.val] I [] λr I' M'=>r=.string (strOf (qV aW d))/\(∀ b o,I b=some o->I' b=some o)/\M'=[]:=by
 refine bX [] aV Tryz.func231 rfl rfl rfl ?_;intro B ao;refine bb.mk [] [] _ (.refl _) (X' b6 ah.t ax) ?_;rintro v cL M1 -⟨rfl,cM,rfl⟩;refine cB.mk (λU=>?_) (λU=>?_)
 ·refine bb.mk [] [] _ (.refl _) (I1 _ d.name) ?_;rintro v I' M' -⟨rfl,rfl,rfl⟩;refine a0.mk (λaa=>?_) (λaa=>?_)
  ·refine⟨_,_,.refl,?_,cM,rfl⟩;have:qV aW d=[]:=by unfold qV;rw[U,aa];rfl
   rw[this];rfl
  ·have hm:kM d.name=true:=by simpa using aa
   have aa:=PT hm;have af:d.name.data.toList.length=d.name.size:=rfl;have aR:=PE aW d.t;have bC:=ah.t.n;refine fh.concat (a:=d.name) (b:=strOf [32,60,45,32]) (by show _+4<=_;omega) ?_;refine fh.concat (a:=d.name++strOf [32,60,45,32]) (b:=strOf (o7 aW d.t)) (by rw[Fv];show _+4+(o7 aW d.t).length<=_;omega) ?_;refine fh.concat (a:=d.name++strOf [32,60,45,32]++strOf (o7 aW d.t)) (b:=strOf [10]) (by rw[Fv,Fv];show _+4+(o7 aW d.t).length+1<=_;omega) ?_;refine⟨_,_,.refl,?_,cM,rfl⟩;refine congrArg Value.string (zW ?_);rw[qV,U,hm];simp[strOf]
 ·refine⟨_,_,.refl,?_,cM,rfl⟩;have:qV aW d=[]:=by unfold qV;rw[U];rfl
  rw[this];rfl
def uP(aW:List Int):List bE->List UInt8->List UInt8
 |[],aM=>aM| d::ds,aM=>bif decide (strOf (qV aW d)=⟨#[]⟩)then []else uP aW ds (aM++qV aW d)
def Yc(b6:ix I aW)(aA:g.ok I)(ax:g.n<=64)(av:∀ d∈g.ds,d.t.n<=1024):Spec Tryz.prog 207 [g.val] I [] λr I' M'=>r=.string (strOf (uP aW g.ds []))/\(∀ b o,I b=some o->I' b=some o)/\M'=[]:=by
 refine bX [3] aV Tryz.func207 rfl rfl rfl ?_;intro B ao;have gb:=aA.n;have Cw:∀ d∈g.ds,d.t.ns.length<=1024:=λd ah=>by rw[(aA.ds d ah).t.n];exact av d ah
 refine cz.mk λb ai Ff=>?_;refine dB.inv (ι:=Nat×fc×aS) (λp=>{ bj:=[(3,.val (ptr b)),(8,.val (.slice g.a g.n g.c)),(9,.val (.int .i64 g.n)),(10,.val (.int .i64 p.1))],c5:=p.2.2,dv:=p.2.1.M b }) (λp=>p.1<=g.n/\p.2.1.ok/\(∀ b o,I b=some o->p.2.2 b=some o)/\p.2.1.cd.length<=2500000*p.1/\uP aW g.ds []=uP aW (g.ds.drop p.1) p.2.1.cd) (λp=>g.n-p.1) ?_ ?_
 ·exact⟨(0,fc.new,I),⟨by simp,fc.Fl,λ_ _ h=>h,by simp[fc.new],rfl⟩,.refl,ew,.nil⟩
 ·rintro⟨i,x,cL⟩⟨hi,ab,cM,kP,mo⟩;simp only at hi ab cM kP mo;refine a0.mk (λh=>?_) (λh=>?_)
  ·have aK:i<g.n:=by simpa using h
   have bP:i<g.ds.length:=by omega
   have kj:=aA.mono cM;obtain⟨ad,b7,bs⟩:=kj.bd.row bE.de aK bP;have eA:g.ds[i]∈g.ds:=dK bP;have uQ:=Ya aW g.ds[i];have eT:=Cw _ eA;have ji:g.ds.drop i=g.ds[i]::g.ds.drop (i+1):=fg bP;refine bc.mk ad i b7 rfl aK ?_;refine aF.mk _ (bs _) ?_;refine bb.mk [] (x.M b) _ (.refl _) (Yb (b6.mono cM) (kj.ds _ eA) (av _ eA)) ?_;rintro v dP dr -⟨rfl,ht,rfl⟩;refine a0.mk (λU=>?_) (λU=>?_);·refine⟨_,_,.sub (ho _) .refl,?_,λb o h=>ht _ _ (cM _ _ h),rfl⟩;rw[mo,ji,uP,U];rfl
   ·refine bb.mk (x.M b) [] _ (by simp) (rO b ab _ (by show _+(qV aW g.ds[i]).length<=_;omega)) ?_;rintro v I' M' -⟨rfl,rfl,y,aN,gp,rfl⟩;have PU:y.cd=x.cd++qV aW g.ds[i]:=gp;have fq:IntKind.i64.wrap ((i:Int)+1)=((i+1:Nat):Int):=by rw[wrap_i64 ⟨by omega,by omega⟩];omega
    refine a5.mk _ fq ?_;refine⟨(i+1,y,_),⟨⟨by simp only;omega,aN,λb o h=>ht _ _ (cM _ _ h),?_,?_⟩,by simp only;omega⟩,.perm (by simp) .refl,ew,.nil⟩;·simp only;rw[PU,cU];omega
    ·simp only;rw[mo,ji,uP,U,PU];rfl
  ·have c1:g.n<=i:=by simpa using h
   have fz:g.ds.drop i=[]:=ir (by omega);refine bb.mk (x.M b) [] _ (by simp) (uI b ab (by omega)) ?_;rintro v I' M' -⟨rfl,rfl,rfl⟩;refine⟨_,_,.refl,?_,cM,by simp⟩;rw[mo,fz];rfl
def Yd(b6:ix I aW)(aA:g.ok I)(ax:g.n<=64)(av:∀ d∈g.ds,d.t.n<=1024):Spec Tryz.prog 136 [g.val] I [] λr I' M'=>r=.int .i64 ((uP aW g.ds []).length:Int)/\(∀ b o,I b=some o->I' b=some o)/\M'=[]:=by refine bX [] aV Tryz.func136 rfl rfl rfl ?_;intro B ao;refine bb.mk [] [] _ (.refl _) (Yc b6 aA ax av) ?_;rintro v I' M' -⟨rfl,bF,rfl⟩;exact⟨_,_,.refl,rfl,bF,rfl⟩
def nd(ns:List a9)(kind:Int):List Int->Bool
 |[]=>true| k::ks=>bif decide (mq ns k=kind)||(decide (mq ns k=0)&&decide (kind=4))then false else nd ns kind ks
def n2(ns:List a9):List a9->Bool
 |[]=>true| d::ds=>bif !decide (d.k=4) && !decide (d.k=5)then n2 ns ds else bif nd ns d.k d.aX then n2 ns ds else false
def normal(t:dG):Bool:=right t&&n2 t.ns t.ns
def cm(h:i<=140737488355328):IntKind.i64.wrap ((i:Int)+1)=((i+1:Nat):Int):=by rw[wrap_i64 ⟨by omega,by omega⟩];omega
def Ye(aL:o0 I)(av:t.ok I):Spec Tryz.prog 88 [t.val] I [] (λv I' M'=>v=.bool (normal t)/\I'=I/\M'=[]):=by
 refine bX [] aV Tryz.func88 rfl rfl rfl ?_;intro B ao;have ax:=av.n;have ki:=av.bd.cap;refine bb.mk [] [] _ (.refl _) (xX aL av) ?_;rintro v I' M' -⟨rfl,rfl,rfl⟩;refine a0.mk (λh=>?_) (λh=>?_)
 ·refine⟨_,_,.refl,?_,rfl,rfl⟩;simp[normal,show right t=false by simpa using h]
 ·have al:right t=true:=by simpa using h
  have d':normal t=n2 t.ns t.ns:=by simp[normal,al]
  rw[d'];refine dB.inv (ι:=Nat) (λi=>{ bj:=[(1,.ref 1 0),(12,.val (.slice t.a t.n t.c)),(13,.val (.int .i64 t.n)),(14,.val (.int .i64 i))],cl:=[(1,t.cells)],c5:=I' }) (λi=>i<=t.n/\n2 t.ns t.ns=n2 t.ns (t.ns.drop i)) (λi=>t.n-i) ?_ ?_;·exact⟨0,⟨by simp,rfl⟩,.refl,ew,.cons rfl .nil⟩
  ·rintro i⟨hi,hx⟩;refine a0.mk (λh=>?_) (λh=>?_)
   ·have aK:i<t.n:=by simpa using h
    have bP:i<t.ns.length:=by omega
    obtain⟨ad,b7,bs⟩:=av.bd.row a9.de aK bP;have h1:=av.ns t.ns[i] (dK bP);have dR:=h1.kn;have ji:t.ns.drop i=t.ns[i]::t.ns.drop (i+1):=fg bP;refine bc.mk ad i b7 rfl aK ?_;refine aF.mk _ (bs _) ?_;refine cB.mk (λdO=>?_) (λdO=>?_)
    ·refine a0.mk (λbL=>?_) (λbL=>?_)
     ·refine a5.mk _ (cm (i:=i) (by omega)) ?_;refine⟨i+1,⟨⟨by omega,?_⟩,by omega⟩,.refl,ew,.cons rfl .nil⟩;rw[hx,ji,n2,dO,bL];rfl
     ·have lL:n2 t.ns t.ns=bif nd t.ns t.ns[i].k t.ns[i].aX then n2 t.ns (t.ns.drop (i+1))else false:=by rw[hx,ji,n2,dO,bL];rfl
      refine dB.inv (ι:=Nat) (λj=>{ bj:=[(1,.ref 1 0),(4,.ref 4 0),(12,.val (.slice t.a t.n t.c)),(13,.val (.int .i64 t.n)),(14,.val (.int .i64 i)),(27,.val (.slice t.ns[i].kg t.ns[i].kn t.ns[i].jc)),(28,.val (.int .i64 t.ns[i].kn)),(29,.val (.int .i64 j))],cl:=[(1,t.cells),(4,t.ns[i].cells)],c5:=I' }) (λj=>j<=t.ns[i].kn/\nd t.ns t.ns[i].k t.ns[i].aX=nd t.ns t.ns[i].k (t.ns[i].aX.drop j)) (λj=>t.ns[i].kn-j) ?_ ?_;·exact⟨0,⟨by simp,rfl⟩,.refl,vL,.cons rfl (.cons rfl .nil)⟩
      ·rintro j⟨an,pe⟩;refine a0.mk (λh=>?_) (λh=>?_)
       ·have fU:j<t.ns[i].kn:=by simpa using h
        have mh:j<t.ns[i].aX.length:=by omega
        obtain⟨hq,h2,gI⟩:=h1.bd.one fU mh;have hM:t.ns[i].aX.drop j=t.ns[i].aX[j]::t.ns[i].aX.drop (j+1):=fg mh;have gv:=qP al i bP _ (dK mh);generalize p0:t.ns[i].aX[j]=Yf at *;obtain⟨q,rfl⟩:=oV gv.1;have e5:q<t.ns.length:=by omega
        have mu:q<t.n:=by omega
        obtain⟨pc,uM,uN⟩:=av.bd.row a9.de mu e5;have uO:∀ M,ca I' M ((pc.add (q*9)).add 0) 1 [.int .u8 t.ns[q].k]:=λM=>(uN M).part (k:=0) (m:=1) (by decide);have rX:mq t.ns ((q:Nat):Int)=t.ns[q].k:=by simp[mq,dh,e5]
        have bad:(decide (t.ns[q].k=t.ns[i].k)||(decide (t.ns[q].k=0)&&decide (t.ns[i].k=4)))=true->n2 t.ns t.ns=false:=λai=>by rw[lL,pe,hM,nd,rX,ai];rfl
        have Cy:(decide (t.ns[q].k=t.ns[i].k)||(decide (t.ns[q].k=0)&&decide (t.ns[i].k=4)))=false->nd t.ns t.ns[i].k t.ns[i].aX=nd t.ns t.ns[i].k (t.ns[i].aX.drop (j+1)):=λai=>by rw[pe,hM,nd,rX,ai];rfl
        have fq:=cm (i:=j) (by have:=h1.bd.cap;omega);refine bc.mk hq j h2 rfl fU ?_;refine aF.mk _ (gI _) ?_;refine bc.mk pc q uM rfl mu ?_;refine aF.mk _ (uO _) ?_;refine cB.mk (λeE=>?_) (λeE=>?_)
        ·refine cB.mk (λeL=>?_) (λeL=>?_)
         ·refine a0.mk (λh3=>?_) (λh3=>?_)
          ·refine⟨_,_,.refl,?_,rfl,rfl⟩;rw[bad (by rw[eE,eL,h3];rfl)]
          ·refine a5.mk _ fq ?_;exact⟨j+1,⟨⟨by omega,Cy (by rw[eE,eL,h3];rfl)⟩,by omega⟩,.refl,vL,.cons rfl (.cons rfl .nil)⟩
         ·refine a5.mk _ fq ?_;exact⟨j+1,⟨⟨by omega,Cy (by rw[eE,eL];rfl)⟩,by omega⟩,.refl,vL,.cons rfl (.cons rfl .nil)⟩
        ·refine⟨_,_,.refl,?_,rfl,rfl⟩;rw[bad (by rw[eE];rfl)]
       ·have xY:t.ns[i].aX.drop j=[]:=ir (by simp at h;omega);refine a5.mk _ (cm (i:=i) (by omega)) ?_;refine⟨i+1,⟨⟨by omega,?_⟩,by omega⟩,.refl,ew,.cons rfl .nil⟩;rw[lL,pe,xY];rfl
    ·have lL:n2 t.ns t.ns=bif nd t.ns t.ns[i].k t.ns[i].aX then n2 t.ns (t.ns.drop (i+1))else false:=by rw[hx,ji,n2,dO];rfl
     refine dB.inv (ι:=Nat) (λj=>{ bj:=[(1,.ref 1 0),(4,.ref 4 0),(12,.val (.slice t.a t.n t.c)),(13,.val (.int .i64 t.n)),(14,.val (.int .i64 i)),(27,.val (.slice t.ns[i].kg t.ns[i].kn t.ns[i].jc)),(28,.val (.int .i64 t.ns[i].kn)),(29,.val (.int .i64 j))],cl:=[(1,t.cells),(4,t.ns[i].cells)],c5:=I' }) (λj=>j<=t.ns[i].kn/\nd t.ns t.ns[i].k t.ns[i].aX=nd t.ns t.ns[i].k (t.ns[i].aX.drop j)) (λj=>t.ns[i].kn-j) ?_ ?_;·exact⟨0,⟨by simp,rfl⟩,.refl,vL,.cons rfl (.cons rfl .nil)⟩
     ·rintro j⟨an,pe⟩;refine a0.mk (λh=>?_) (λh=>?_)
      ·have fU:j<t.ns[i].kn:=by simpa using h
       have mh:j<t.ns[i].aX.length:=by omega
       obtain⟨hq,h2,gI⟩:=h1.bd.one fU mh;have hM:t.ns[i].aX.drop j=t.ns[i].aX[j]::t.ns[i].aX.drop (j+1):=fg mh;have gv:=qP al i bP _ (dK mh);generalize p0:t.ns[i].aX[j]=Yf at *;obtain⟨q,rfl⟩:=oV gv.1;have e5:q<t.ns.length:=by omega
       have mu:q<t.n:=by omega
       obtain⟨pc,uM,uN⟩:=av.bd.row a9.de mu e5;have uO:∀ M,ca I' M ((pc.add (q*9)).add 0) 1 [.int .u8 t.ns[q].k]:=λM=>(uN M).part (k:=0) (m:=1) (by decide);have rX:mq t.ns ((q:Nat):Int)=t.ns[q].k:=by simp[mq,dh,e5]
       have bad:(decide (t.ns[q].k=t.ns[i].k)||(decide (t.ns[q].k=0)&&decide (t.ns[i].k=4)))=true->n2 t.ns t.ns=false:=λai=>by rw[lL,pe,hM,nd,rX,ai];rfl
       have Cy:(decide (t.ns[q].k=t.ns[i].k)||(decide (t.ns[q].k=0)&&decide (t.ns[i].k=4)))=false->nd t.ns t.ns[i].k t.ns[i].aX=nd t.ns t.ns[i].k (t.ns[i].aX.drop (j+1)):=λai=>by rw[pe,hM,nd,rX,ai];rfl
       have fq:=cm (i:=j) (by have:=h1.bd.cap;omega);refine bc.mk hq j h2 rfl fU ?_;refine aF.mk _ (gI _) ?_;refine bc.mk pc q uM rfl mu ?_;refine aF.mk _ (uO _) ?_;refine cB.mk (λeE=>?_) (λeE=>?_)
       ·refine cB.mk (λeL=>?_) (λeL=>?_)
        ·refine a0.mk (λh3=>?_) (λh3=>?_)
         ·refine⟨_,_,.refl,?_,rfl,rfl⟩;rw[bad (by rw[eE,eL,h3];rfl)]
         ·refine a5.mk _ fq ?_;exact⟨j+1,⟨⟨by omega,Cy (by rw[eE,eL,h3];rfl)⟩,by omega⟩,.refl,vL,.cons rfl (.cons rfl .nil)⟩
        ·refine a5.mk _ fq ?_;exact⟨j+1,⟨⟨by omega,Cy (by rw[eE,eL];rfl)⟩,by omega⟩,.refl,vL,.cons rfl (.cons rfl .nil)⟩
       ·refine⟨_,_,.refl,?_,rfl,rfl⟩;rw[bad (by rw[eE];rfl)]
      ·have xY:t.ns[i].aX.drop j=[]:=ir (by simp at h;omega);refine a5.mk _ (cm (i:=i) (by omega)) ?_;refine⟨i+1,⟨⟨by omega,?_⟩,by omega⟩,.refl,ew,.cons rfl .nil⟩;rw[lL,pe,xY];rfl
   ·have c1:t.n<=i:=by simpa using h
    have fz:t.ns.drop i=[]:=ir (by omega);refine⟨_,_,.refl,?_,rfl,rfl⟩;rw[hx,fz];rfl
def tc(t:dG):Nat:=bif right t then t.n else 0
def yi(g:dX):Nat:=(g.ds.map λd=>tc d.t).sum
def PV{α:Type}(f:α->Nat)(m:Nat):∀ (l:List α),(∀ x∈l,f x<=m)->(l.map f).sum<=m*l.length
 |[],_=>by simp
 |x::l,h=>by have U:=h x (by simp);have aa:=PV f m l λy aN=>h y (by simp[aN]);simp only[dV,qK,e1,Nat.mul_add];omega
def Yg(aL:o0 I)(aA:g.ok I)(ax:g.n<=64)(av:∀ d∈g.ds,d.t.n<=1024):Spec Tryz.prog 135 [g.val] I [] (λv I' M'=>v=.int .i64 (yi g:Nat)/\I'=I/\M'=[]):=by
 refine bX [] aV Tryz.func135 rfl rfl rfl ?_;intro B ao;have gb:=aA.n;refine dB.inv (ι:=Nat) (λi=>{ bj:=[(3,.val (.int .i64 (((g.ds.take i).map λd=>tc d.t).sum:Nat))),(7,.val (.slice g.a g.n g.c)),(8,.val (.int .i64 g.n)),(9,.val (.int .i64 i))],c5:=I }) (λi=>i<=g.n) (λi=>g.n-i) ?_ ?_
 ·exact⟨0,by simp,.refl,ew,.nil⟩
 ·intro i hi;refine a0.mk (λh=>?_) (λh=>?_)
  ·have aK:i<g.n:=by simpa using h
   have bP:i<g.ds.length:=by omega
   obtain⟨ad,b7,bs⟩:=aA.bd.row bE.de aK bP;have eA:g.ds[i]∈g.ds:=dK bP;have ap:((g.ds.take i).map λd=>tc d.t).sum<=1024*(g.ds.take i).length:=PV _ 1024 _ λd ah=>by
    have:=av d (Fx ah);unfold tc;cases right d.t<;>simp
    omega
   have ar:=zH i g.ds;have gQ:tc g.ds[i].t<=1024:=by
    have:=av _ eA;unfold tc;cases right g.ds[i].t<;>simp
    omega
   refine bc.mk ad i b7 rfl aK ?_;refine aF.mk _ (bs _) ?_;refine bb.mk [] [] _ (.refl _) (Xn aL (aA.ds _ eA).t) ?_;rintro v I' M' -⟨rfl,rfl,rfl⟩;have aw:(bif right g.ds[i].t then(g.ds[i].t.n:Int)else 0)=(tc g.ds[i].t:Nat):=by
    unfold tc;cases right g.ds[i].t<;>rfl
   rw[aw];refine a5.mk ((((g.ds.take (i+1)).map λd=>tc d.t).sum:Nat):Int) ?_ ?_;·rw[wrap_i64 ⟨by omega,by omega⟩,hU bP,gX,Jh];simp
   refine a5.mk _ (cm (i:=i) (by omega)) ?_;exact⟨i+1,⟨by omega,by omega⟩,.refl,ew,.nil⟩
  ·have c1:g.n<=i:=by simpa using h
   refine⟨_,_,.refl,?_,rfl,rfl⟩;rw[hn (by omega)];rfl
def td(aW:List Int)(g:dX):Bool:=
 decide (64<g.n)||((!g.ds.all λd=>rN d.t)||(decide (1024<yi g)||decide (8192<(uP aW g.ds []).length)))
def Yh(b6:ix I aW)(aA:g.ok I):Spec Tryz.prog 89 [g.val] I [] (λv I' M'=>v=.bool (td aW g)/\(∀ b o,I b=some o->I' b=some o)/\M'=[]):=by
 refine bX [] aV Tryz.func89 rfl rfl rfl ?_;intro B ao;have gb:=aA.n;refine a0.mk (λU=>?_) (λU=>?_)
 ·refine⟨_,_,.refl,?_,λ_ _ h=>h,rfl⟩;have:64<g.n:=by simp at U;omega
  simp[td,this]
 ·have ax:g.n<=64:=by simp at U;omega
  have cv:td aW g=((!g.ds.all λd=>rN d.t)||(decide (1024<yi g)||decide (8192<(uP aW g.ds []).length))):=by
   have:¬ 64<g.n:=by omega
   simp[td,this]
  rw[cv];refine dB.inv (ι:=Nat) (λi=>{ bj:=[(1,.ref 1 0),(10,.val (.slice g.a g.n g.c)),(11,.val (.int .i64 g.n)),(12,.val (.int .i64 i))],cl:=[(1,[.slice g.a g.n g.c])],c5:=I }) (λi=>i<=g.n/\(g.ds.take i).all (λd=>rN d.t)=true) (λi=>g.n-i) ?_ ?_;·exact⟨0,⟨by simp,rfl⟩,.refl,ew,.cons rfl .nil⟩
  ·rintro i⟨hi,gS⟩;refine a0.mk (λh=>?_) (λh=>?_)
   ·have aK:i<g.n:=by simpa using h
    have bP:i<g.ds.length:=by omega
    obtain⟨ad,b7,bs⟩:=aA.bd.row bE.de aK bP;have eA:g.ds[i]∈g.ds:=dK bP;refine bc.mk ad i b7 rfl aK ?_;refine aF.mk _ (bs _) ?_;refine bb.mk [] [] _ (.refl _) (Xr b6.c (aA.ds _ eA).t) ?_;rintro v I' M' -⟨rfl,rfl,rfl⟩;refine a0.mk (λaa=>?_) (λaa=>?_)
    ·refine⟨_,_,.refl,?_,λ_ _ h=>h,rfl⟩;have az:rN g.ds[i].t=false:=by simpa using aa
     have:(g.ds.all λd=>rN d.t)=false:=by rw[Fz];exact⟨_,eA,by simp[az]⟩
     rw[this];rfl
    ·have az:rN g.ds[i].t=true:=by simpa using aa
     refine a5.mk _ (cm (i:=i) (by omega)) ?_;refine⟨i+1,⟨⟨by omega,?_⟩,by omega⟩,.refl,ew,.cons rfl .nil⟩;rw[hU bP,FB,gS];simp[az]
   ·have c1:g.n<=i:=by simpa using h
    rw[hn (by omega)]at gS;rw[gS];have PW:∀ d∈g.ds,d.t.n<=1024:=λd ah=>by have:=gi.1 gS d ah;unfold rN at this;simp only[b3,e0]at this;exact this.1
    refine bb.mk [] [] _ (.refl _) (Yg b6.c aA ax PW) ?_;rintro v I' M' -⟨rfl,rfl,rfl⟩;refine cB.mk (λaa=>?_) (λaa=>?_)
    ·refine bb.mk [] [] _ (.refl _) (Yd b6 aA ax PW) ?_;rintro v dP M' -⟨rfl,ht,rfl⟩;refine⟨_,_,.refl,?_,ht,rfl⟩;have nX:¬ 1024<yi g:=by simp at aa;omega
     simp[nX];omega
    ·refine⟨_,_,.refl,?_,λ_ _ h=>h,rfl⟩;have nX:1024<yi g:=by simp at aa;omega
     simp[nX]
def c9(name:ByteArray):List bE->Nat->Int
 |[],_=>-1| d::ds,i=>bif decide (d.name=name)then(i:Int)else c9 name ds (i+1)
def Yi(aA:g.ok I)(name:ByteArray):Spec Tryz.prog 59 [g.val,.string name] I [] (λv I' M'=>v=.int .i64 (c9 name g.ds 0)/\I'=I/\M'=[]):=by
 refine bX [] aV Tryz.func59 rfl rfl rfl ?_;intro B ao;have gb:=aA.n;have ki:=aA.bd.cap;refine dB.inv (ι:=Nat) (λi=>{ bj:=[(1,.val (.string name)),(8,.val (.slice g.a g.n g.c)),(9,.val (.int .i64 g.n)),(10,.val (.int .i64 i))],c5:=I }) (λi=>i<=g.n/\c9 name g.ds 0=c9 name (g.ds.drop i) i) (λi=>g.n-i) ?_ ?_
 ·exact⟨0,⟨by simp,rfl⟩,.refl,ew,.nil⟩
 ·rintro i⟨hi,az⟩;refine a0.mk (λh=>?_) (λh=>?_)
  ·have aK:i<g.n:=by simpa using h
   have bP:i<g.ds.length:=by omega
   obtain⟨ad,b7,bs⟩:=aA.bd.row bE.de aK bP;have ji:g.ds.drop i=g.ds[i]::g.ds.drop (i+1):=fg bP;refine bc.mk ad i b7 rfl aK ?_;refine aF.mk _ (bs _) ?_;refine a0.mk (λaa=>?_) (λaa=>?_);·refine⟨_,_,.refl,?_,rfl,rfl⟩;rw[az,ji,c9,aa];rfl
   ·refine a5.mk _ (cm (i:=i) (by omega)) ?_;refine⟨i+1,⟨⟨by omega,?_⟩,by omega⟩,.refl,ew,.nil⟩;rw[az,ji,c9,aa];rfl
  ·have c1:g.n<=i:=by simpa using h
   refine⟨_,_,.refl,?_,rfl,rfl⟩;rw[az,ir (by omega)];rfl
def drop_cons{L:List α}{k:Nat}{x:α}{a2:List α}(h:L.drop k=x::a2):∃ ae:k<L.length,L[k]=x/\L.drop (k+1)=a2:=by
 have ae:k<L.length:=by apply Nat.lt_of_not_le;intro bo;rw[ir bo]at h;cases h
 have ah:=fg ae;rw[h]at ah;obtain⟨U,aa⟩:=List.cons.inj ah;exact⟨ae,U.symm,aa.symm⟩
def qW:Nat->List bE->List (List Value)
 |_,[]=>[]| i,d::ds=>d.t.ns.map (λn=>[.int .i64 i,n.val])++qW (i+1) ds
def Yj(g:dX):Spec Tryz.prog 90 [g.val] I [] λr I' M'=>∃ b,r=.func (.func 137) #[] #[ptr b]/\I' b=some (.cells #[.slice g.a g.n g.c] 24 (0,0))/\(∀ b o,I b=some o->I' b=some o)/\M'=[]:=by refine bX [1] aV Tryz.func90 rfl rfl rfl ?_;intro B ao;refine cz.mk λg aA zU=>?_;exact⟨_,_,.qs rfl (by simp) .refl,g,rfl,s8 ..,pY aA,rfl⟩
def Yk(aA:g.ok I){b:Nat}(ai:I b=some (.cells #[.slice g.a g.n g.c] 24 (0,0))) :
  Iter Tryz.prog 137 [ptr b] I (qW 0 g.ds):=by
 intro l R rK v9 dj M0 pZ jY;refine BM [] aV Tryz.func137 rfl rfl rfl ?_;intro B ao;have gb:=aA.n;have ki:=aA.bd.cap;have bs:∀ (M:List ay),ca dj M ((⟨b,0,none⟩:Addr).add 0) 1 [.slice g.a g.n g.c]:=λM=>⟨rfl,_,_,_,.inl (pZ _ _ ai),rfl,rfl⟩;refine aF.mk _ (bs _) ?_;refine dB.inv (ι:=Nat×Nat×aS×List ay) (λx=>{ bj:=[(0,.val (.func (.yield l) #[] #[])),(8,.val (.slice g.a g.n g.c)),(9,.val (.int .i64 g.n)),(10,.val (.int .i64 x.1))],c5:=x.2.2.1,dv:=x.2.2.2 }) (λx=>x.1<=g.n/\(∀ b o,I b=some o->x.2.2.1 b=some o)/\R x.2.1 x.2.2.1 x.2.2.2/\x.2.1<=(qW 0 g.ds).length/\(qW 0 g.ds).drop x.2.1=qW x.1 (g.ds.drop x.1)) (λx=>g.n-x.1) ?_ ?_
 ·exact⟨(0,0,dj,M0),⟨by simp,pZ,jY,by simp,rfl⟩,.refl,ew,.nil⟩
 ·rintro⟨i,k,cL,M1⟩⟨hi,cM,k8,fr,hc⟩;simp only at hi cM k8 fr hc;refine a0.mk (λh=>?_) (λh=>?_)
  ·have aK:i<g.n:=by simpa using h
   have bP:i<g.ds.length:=by omega
   have kj:=aA.mono cM;obtain⟨ad,b7,Jy⟩:=kj.bd.row bE.de aK bP;have eA:g.ds[i]∈g.ds:=dK bP;have pf:=(aA.ds _ eA).t.n;have Yl:=(aA.ds _ eA).t.bd.cap;have ji:g.ds.drop i=g.ds[i]::g.ds.drop (i+1):=fg bP;refine bc.mk ad i b7 rfl aK ?_;refine aF.mk _ (Jy _) ?_;refine dB.inv (ι:=Nat×Nat×aS×List ay) (λx=>{ bj:=[(0,.val (.func (.yield l) #[] #[])),(3,.val (.int .i64 i)),(8,.val (.slice g.a g.n g.c)),(9,.val (.int .i64 g.n)),(10,.val (.int .i64 i)),(17,.val (.slice g.ds[i].t.a g.ds[i].t.n g.ds[i].t.c)),(18,.val (.int .i64 g.ds[i].t.n)),(19,.val (.int .i64 x.1))],c5:=x.2.2.1,dv:=x.2.2.2 }) (λx=>x.1<=g.ds[i].t.n/\(∀ b o,I b=some o->x.2.2.1 b=some o)/\R x.2.1 x.2.2.1 x.2.2.2/\x.2.1<=(qW 0 g.ds).length/\(qW 0 g.ds).drop x.2.1=(g.ds[i].t.ns.drop x.1).map (λn=>[.int .i64 i,n.val])++qW (i+1) (g.ds.drop (i+1))) (λx=>g.ds[i].t.n-x.1) ?_ ?_;·refine⟨(0,k,cL,M1),⟨by simp,cM,k8,fr,?_⟩,.refl,vL,.nil⟩;simp only;rw[hc,ji];rfl
   ·rintro⟨j,k,cL,M1⟩⟨an,cM,k8,fr,hc⟩;simp only at an cM k8 fr hc;refine a0.mk (λh=>?_) (λh=>?_)
    ·have fU:j<g.ds[i].t.n:=by simpa using h
     have mh:j<g.ds[i].t.ns.length:=by omega
     have kj:=aA.mono cM;obtain⟨kk,Ym,nL⟩:=(kj.ds _ eA).t.bd.row a9.de fU mh;have cJ:g.ds[i].t.ns.drop j=g.ds[i].t.ns[j]::g.ds[i].t.ns.drop (j+1):=fg mh;rw[cJ,dV,sY]at hc;obtain⟨ae,ag,nf⟩:=drop_cons hc;refine bc.mk kk j Ym rfl fU ?_;refine aF.mk _ (nL _) ?_;refine bl.yield rfl (by simp) rfl rfl ?_;have aN:=v9 k ae cL M1 cM k8;rw[ag]at aN;refine Fa.mk M1 [] _ (by simp) aN ?_;rintro v dP dr ht (⟨rfl,oZ⟩ | ⟨rfl,ab⟩);·refine a0.mk (λh=>by simp at h) (λ_=>?_);refine a5.mk _ (cm (i:=j) (by omega)) ?_;exact⟨(j+1,k+1,dP,dr),⟨⟨by simp only;omega,λb o h=>ht b o (cM b o h),oZ,ae,nf⟩,by simp only;omega⟩,.perm (by simp) .refl,vL,.nil⟩
     ·refine a0.mk (λ_=>?_) (λh=>by simp at h);exact⟨_,_,.perm (by simp) .refl,.inr ab⟩
    ·have c1:g.ds[i].t.n<=j:=by simpa using h
     rw[ir (show g.ds[i].t.ns.length<=j by omega),mU,mT]at hc;refine a5.mk _ (cm (i:=i) (by omega)) ?_;exact⟨(i+1,k,cL,M1),⟨⟨by simp only;omega,cM,k8,fr,hc⟩,by simp only;omega⟩,.refl,ew,.nil⟩
  ·have c1:g.n<=i:=by simpa using h
   refine⟨_,_,.refl,.inl ?_⟩;rw[ir (show g.ds.length<=i by omega)]at hc;have x3:k=(qW 0 g.ds).length:=by have:=II.1 hc;omega
   rw[<-x3];exact k8
section
variable{X:cD}{β:Nat->Nat}{a:Act}{w:World}{F:Fr}{C:c2}{I:aS}{M:List ay}{o:Oper}{K:fo}
def cp.swap{n:Nat}{mg FP:Obj}{w':World}(h:cp X β a w F C I (⟨n,mg⟩::M))(ap:w'.heap.size=w.heap.size)(ax:w'.heap[n]?=some FP)(ai:∀ b,b≠n->w'.heap[b]?=w.heap[b]?)(aq:l5 w w'):cp X β a w' F C I (⟨n,FP⟩::M):=by
 have U:=h.Oz ap ai aq;have e7:(⟨n,mg⟩:ay)∈(⟨n,mg⟩:ay)::M:=by simp
 have cJ:=h.holds.ch;simp only[dV,lA]at cJ;have mem:∀ x,x∈(⟨n,FP⟩:ay)::M->x=⟨n,FP⟩\/x∈M:=λx ab=>eg.1 ab;exact {
  size:=U.size
  defers:=by
   obtain⟨bd,aw,aB,bD⟩:=U.defers;obtain⟨Yn,f1,f2,f3⟩:=h.defers;refine⟨bd,aw,aB,λr al=>{ bD r al with ec:=λx ab=>?_ }⟩;rcases mem x ab with rfl | ab
   ·have dH:bd=Yn:=by
     have:=aw.symm.trans f1;have FQ:∀ l c4:List Nat,l.map uj=c4.map uj->l=c4:=by
      intro l
      induction l with
      |nil=>intro c4 h;cases c4 with
       |nil=>rfl| cons=>simp at h
      |cons y l be=>intro c4 h;cases c4 with
       |nil=>simp at h
       |cons z c4=>
        simp only[dV,uK,uj,Deferred.mk.injEq]at h;have aN:y=z:=by simpa using h.1
        rw[aN,be c4 h.2]
     exact FQ _ _ this
    subst dH;exact(f3 r al).ec ⟨n,mg⟩ e7
   ·exact(bD r al).ec x ab
  holds:={
   i:=U.holds.i
   m:=λx ab=>by
    rcases mem x ab with rfl | ab;·exact ax
    ·exact U.holds.m x ab
   d:=λx ab=>by
    rcases mem x ab with rfl | ab;·exact h.holds.d ⟨n,mg⟩ e7
    ·exact U.holds.d x ab
   ch:=by simpa using cJ }
  aj:=h.aj
  b5:=λs cs jd=>by
   have rH:=h.b5 s cs jd;refine { U.b5 s cs jd with ec:=λx ab=>?_ };rcases mem x ab with rfl | ab;·exact rH.ec ⟨n,mg⟩ e7
   ·exact(U.b5 s cs jd).ec x ab
  inj:=h.inj
  gP:=h.gP
  gu:=h.gu
  own:=λx ab=>by
   rcases mem x ab with rfl | ab;·exact h.own ⟨n,mg⟩ e7
   ·exact U.own x ab
  c3:=U.c3
  out:=U.out
  sz:=U.sz }
def mw(l:List (ByteArray×Int)):Nat->List MapEntry
 |i=>match l with
  |[]=>[]| p::l=>{ key:=.string p.1,val:=.int .i64 p.2,born:=i }::mw l (i+1)
def hO(l:List (ByteArray×Int)):Obj:=.map (mw l 0).toArray l.length
def dI(s:ByteArray):List (ByteArray×Int)->Option Int
 |[]=>none| p::l=>bif decide (s=p.1)then some p.2 else dI s l
def Yo(l:List (ByteArray×Int))(p:ByteArray×Int):∀ i,mw (l++[p]) i=mw l i++[{ key:=.string p.1,val:=.int .i64 p.2,born:=i+l.length }]:=by
 induction l with
 |nil=>intro i;simp[mw]| cons q l be=>intro i;simp only[sY,mw,be,e1,uK,true_and,List.append_cancel_left_eq,MapEntry.mk.injEq,and_true];omega
def bytes_beq(a b:ByteArray):(a == b)=decide (a=b):=by
 rw[l2];simp only[e0];constructor
 ·intro h
  first | exact eq_of_beq h | exact ry (eq_of_beq (a:=a.data) (b:=b.data) h)
 ·rintro rfl
  first | exact Br _ | exact Br a.data
def FR(s:ByteArray):∀ (l:List (ByteArray×Int)) (i j:Nat),∃ r,Instr.findNow .string (.string s) (mw l i) j=some r/\r.map (·.2)=(dI s l).map (Value.int .i64)
 |[],i,j=>⟨none,rfl,rfl⟩
 |p::l,i,j=>by
  obtain⟨r,U,aa⟩:=FR s l (i+1) (j+1);unfold mw Instr.findNow;simp only[Instr.sameNow,bytes_beq];cases ai:decide (s=p.1)with
  |true=>exact⟨_,rfl,by simp[dI,ai]⟩| false=>exact⟨r,U,by simp only[dI,ai,ba];exact aa⟩
def bl.makeMap(aE:cE X.P X.E){t:Nat}{r:Operand}(aq:o.op=.makeMap t (some r))(ah:∀ d,o.dst=some d->d<X.n){k e:Nat}(av:X.E t=some dc)(dL:dc.bz=.map k e)
  {q:IntKind} {n:Int} (al:br F r=.val (.int q n)) (h:∀ b,K (put o.dst (.val (.map (some b))) F) C I (⟨b,hO []⟩::M)):bl X o F C I M K:=by
 refine⟨λa w Q ⟨β,a1⟩=>?_⟩;obtain⟨d,eM,e4⟩:=(aE _ _ av).eJ;have U:d=.map k e:=by rw[dL]at e4;cases d<;>simp_all[eD]
 subst U;have Jz:=cV a1.aj al;refine hV (by rw[aq];simp) (v:=.map (some w.heap.size)) (w':=w.alloc (.map #[] 0)) ?_ ⟨_,_,_,_,⟨β,cp.put (x:=.val (.map (some w.heap.size))) (a1.mM (hO [])) ah rfl⟩,h _⟩;unfold execOp;simp only[aq,jT,Jz];simp[Instr.makeMap,run_underlying eM,asInt,l7]
def bl.lookup(aE:cE X.P X.E){t:Nat}(aq:o.op=.lookup t x y true)(ah:∀ d,o.dst=some d->d<X.n){k e:Nat}(av:X.E t=some dc)(dL:dc.bz=.map k e)(ae:X.E k=some qT)(eU:qT.bz=.string)(bg:∀ w,(zeroValue e).run X.P w=.ok (.int .i64 0) w){g:Nat}{l:List (ByteArray×Int)}(ab:br F x=.val (.map (some g)))(aN:br F y=.val (.string s))(a4:(⟨g,hO l⟩:ay)∈M)
  (h:K (put o.dst (.val (.tuple #[.int .i64 ((dI s l).getD 0),.bool (dI s l).isSome])) F) C I M):bl X o F C I M K:=by
 refine⟨λa w Q ⟨β,a1⟩=>?_⟩;obtain⟨d,eM,e4⟩:=(aE _ _ av).eJ;have U:d=.map k e:=by rw[dL]at e4;cases d<;>simp_all[eD]
 subst U;obtain⟨iy,p6,h1⟩:=(aE _ _ ae).eJ;have aa:iy=.string:=by rw[eU]at h1;cases iy<;>simp_all[eD]
 subst aa;have aA:w.heap[g]?=some (.map (mw l 0).toArray l.length):=a1.holds.m _ a4;have ex:=cV a1.aj ab;have nV:=cV a1.aj aN;obtain⟨r,sJ,lP⟩:=FR s l 0 0;have aL:(Instr.checkKey (mw l 0).toArray.isEmpty 10000 k (.string s)).run X.P w=.ok () w:=z1 (k:=.string s) p6 (by simp[MapKept.IsKey]) _ 9999;have rZ:(Instr.findKey k (.string s) (mw l 0)).run X.P w=.ok r w:=z2 p6 sJ;have eK:(Instr.lookup t (.map (some g)) (.string s) true).run X.P w=.ok (.tuple #[.int .i64 ((dI s l).getD 0),.bool (dI s l).isSome]) w:=by
  unfold Instr.lookup;simp only[bZ,run_underlying eM,bK,z0 aA,cG,aL,rZ];cases r with
  |none=>
   cases ar:dI s l with
   |none=>simp[bg]| some v=>rw[ar]at lP;simp at lP
  |some p=>
   cases ar:dI s l with
   |none=>rw[ar]at lP;simp at lP| some v=>rw[ar]at lP;simp only[jT,iJ]at lP;simp[lP]
 refine sI a1 ah (by rw[aq];simp) ?_ h;unfold execOp;simp only[aq,ex,nV,bZ,eK,bK,cG]
def bl.PX(aE:cE X.P X.E){t:Nat}{z:Operand}(aq:o.op=.mapUpdate t x y z)(ah:o.dst=none){k e:Nat}(av:X.E t=some dc)(dL:dc.bz=.map k e)(ae:X.E k=some qT)(eU:qT.bz=.string)
  {g:Nat} {l:List (ByteArray×Int)} {v:Int} (ab:br F x=.val (.map (some g))) (aN:br F y=.val (.string s)) (xD:br F z=.val (.int .i64 v)) (ar:dI s l=none)
  {Mr:List ay} (a4:M.Perm (⟨g,hO l⟩::Mr)) (h:K F C I (⟨g,hO (l++[(s,v)])⟩::Mr)):bl X o F C I M K:=by
 refine⟨λa w Q ⟨β,jY⟩=>?_⟩;have a1:cp X β a w F C I (⟨g,hO l⟩::Mr):=jY.hh (.perm a4 .refl);obtain⟨d,eM,e4⟩:=(aE _ _ av).eJ;have U:d=.map k e:=by rw[dL]at e4;cases d<;>simp_all[eD]
 subst U;obtain⟨iy,p6,h1⟩:=(aE _ _ ae).eJ;have aa:iy=.string:=by rw[eU]at h1;cases iy<;>simp_all[eD]
 subst aa;have aA:w.heap[g]?=some (.map (mw l 0).toArray l.length):=a1.holds.m ⟨g,hO l⟩ (by simp);have ex:=cV a1.aj ab;have nV:=cV a1.aj aN;have ng:=cV a1.aj xD;obtain⟨r,sJ,lP⟩:=FR s l 0 0;have al:r=none:=by
  rw[ar]at lP;cases r with
  |none=>rfl| some _=>simp at lP
 subst al;have aL:(Instr.checkKey false 10000 k (.string s)).run X.P w=.ok () w:=z1 (k:=.string s) p6 (by simp[MapKept.IsKey]) _ 9999;have rZ:(Instr.findKey k (.string s) (mw l 0)).run X.P w=.ok none w:=z2 p6 sJ;have gn:hO (l++[(s,v)])=.map ((mw l 0).toArray.push { key:=.string s,val:=.int .i64 v,born:=l.length }) (l.length+1):=by unfold hO;rw[Yo];simp
 have eK:(Instr.mapUpdate t (.map (some g)) (.string s) (.int .i64 v)).run X.P w=.ok () { w with heap:=w.heap.setIfInBounds g (hO (l++[(s,v)])) }:=by unfold Instr.mapUpdate;simp only[bZ,run_underlying eM,bK,z0 aA,aL,rZ,Jb _ aA,gn]
 have fj:=MapKept.heap_set (o':=hO (l++[(s,v)])) aA;refine zu (by rw[aq];simp) (w':={ w with heap:=w.heap.setIfInBounds g (hO (l++[(s,v)])) }) ?_ ⟨F,C,I,_,⟨β,?_⟩,h⟩
 ·unfold execOp;simp only[aq,ex,nV,ng,bZ,eK,bK,cG]
 ·rw[ah];exact a1.swap (by simp) fj.1 fj.2 ⟨rfl,rfl⟩
end
def r0:Nat->List bE->List (Nat×a9)
 |_,[]=>[]| i,d::ds=>d.t.ns.map (λn=>(i,n))++r0 (i+1) ds
def Cz:∀ (ds:List bE) (i:Nat),qW i ds=(r0 i ds).map λp=>[.int .i64 p.1,p.2.val]
 |[],i=>rfl| d::ds,i=>by simp only[qW,r0,gX,lM,Cz ds (i+1)];rfl
def te(ds:List bE):Bool:=ds.all λd=>kM d.name&&normal d.t
def n3:List (ByteArray×Int)->Nat->List bE->Option (List (ByteArray×Int))
 |aM,_,[]=>some aM| aM,i,d::ds=>bif (dI d.name aM).isSome then none else n3 (aM++[(d.name,(i:Int))]) (i+1) ds
def wo(aM:List (ByteArray×Int))(n:a9):Bool:=!decide (n.k=3)||(dI n.t aM).isSome
def uR(aM:List (ByteArray×Int))(ds:List bE):Bool:=(r0 0 ds).all λp=>wo aM p.2
def g1(aW:List Int)(g:dX):Int:=
 bif decide ((g.n:Int)=0)then 4 else bif !te g.ds then 4 else bif td aW g then 40 else
 match n3 [] 0 g.ds with
 |none=>6| some aM=>bif uR aM g.ds then 0 else 41
def r1(b:Nat)(e:Int):ay:=⟨b,.cells #[.int .i64 e] 31 (0,0)⟩
def yj{b:Nat}{e:Int}(h:r1 b e∈M):ca I M ⟨b,0,none⟩ 1 [.int .i64 e]:=
 ⟨rfl,_,_,_,.inr ⟨_,h,rfl,rfl⟩,rfl,rfl⟩
def CA(w:World):(zeroValue 3).run Tryz.prog w=.ok (.int .i64 0) w:=by
 have h:(Tryz.prog.info? 3).map (λi=>i.zero)=some (some (.int .i64 0)):=by kernel_rfl
 obtain⟨i,U,aa⟩:=sE.1 h;simp[zeroValue,typeInfo,U,aa]
def PY(b6:ix I aW)(aA:g.ok I):Spec Tryz.prog 36 [g.val] I [] (λv I' M'=>v=.int .i64 (g1 aW g)/\(∀ b o,I b=some o->I' b=some o)/\M'=[]):=by
 refine bX [2,5] aV Tryz.func36 rfl rfl rfl ?_;intro B ao;have gb:=aA.n;have ki:=aA.bd.cap;refine cz.mk λcx eW ah2=>?_;refine a0.mk (λU=>?_) (λU=>?_)
 ·refine cg.mk [] [] _ _ rfl rfl (bJ rfl) rfl ?_;refine aF.mk _ (yj (b:=cx) (e:=4) (.head _)) ?_;refine⟨_,_,.sub (ho _) .refl,?_,λ_ _ h=>h,rfl⟩;rw[g1,U];rfl
 ·have jX:g.n≠0:=by simp at U;omega
  refine dB.inv (ι:=Nat) (λi=>{ bj:=[(1,.ref 1 0),(2,.val (ptr cx)),(19,.val (.slice g.a g.n g.c)),(20,.val (.int .i64 g.n)),(21,.val (.int .i64 i))],cl:=[(1,[.slice g.a g.n g.c])],c5:=I,dv:=[r1 cx 0] }) (λi=>i<=g.n/\te (g.ds.take i)=true) (λi=>g.n-i) ?_ ?_;·exact⟨0,⟨by simp,rfl⟩,.refl,g',.cons rfl .nil⟩
  ·rintro i⟨hi,gS⟩;refine a0.mk (λh=>?_) (λh=>?_)
   ·have aK:i<g.n:=by simpa using h
    have bP:i<g.ds.length:=by omega
    obtain⟨ad,b7,bs⟩:=aA.bd.row bE.de aK bP;have eA:g.ds[i]∈g.ds:=dK bP;have bad:(kM g.ds[i].name&&normal g.ds[i].t)=false->g1 aW g=4:=λai=>by
     have:te g.ds=false:=by unfold te;rw[Fz];exact⟨_,eA,by simp[ai]⟩
     rw[g1,U,this];rfl
    refine bc.mk ad i b7 rfl aK ?_;refine aF.mk _ (bs _) ?_;refine bb.mk [] [r1 cx 0] _ (.refl _) (I1 _ g.ds[i].name) ?_;rintro v I' M' -⟨rfl,rfl,rfl⟩;refine cB.mk (λaa=>?_) (λaa=>?_)
    ·have hm:kM g.ds[i].name=true:=by simpa using aa
     refine bb.mk [] [r1 cx 0] _ (.refl _) (Ye b6.c (aA.ds _ eA).t) ?_;rintro v I' M' -⟨rfl,rfl,rfl⟩;refine a0.mk (λaf=>?_) (λaf=>?_)
     ·have d':normal g.ds[i].t=false:=by simpa using af
      refine cg.mk [] [] _ _ rfl rfl (bJ rfl) rfl ?_;refine aF.mk _ (yj (b:=cx) (e:=4) (.head _)) ?_;refine⟨_,_,.sub (ho _) .refl,?_,λ_ _ h=>h,rfl⟩;rw[bad (by rw[hm,d'];rfl)];rfl
     ·have d':normal g.ds[i].t=true:=by simpa using af
      refine a5.mk _ (cm (i:=i) (by omega)) ?_;refine⟨i+1,⟨⟨by omega,?_⟩,by omega⟩,.refl,g',.cons rfl .nil⟩;unfold te at gS |-;rw[hU bP,FB,gS];simp[hm,d']
    ·have hm:kM g.ds[i].name=false:=by simpa using aa
     refine cg.mk [] [] _ _ rfl rfl (bJ rfl) rfl ?_;refine aF.mk _ (yj (b:=cx) (e:=4) (.head _)) ?_;refine⟨_,_,.sub (ho _) .refl,?_,λ_ _ h=>h,rfl⟩;rw[bad (by rw[hm];rfl)];rfl
   ·have c1:g.n<=i:=by simpa using h
    rw[hn (by omega)]at gS;refine bb.mk [] [r1 cx 0] _ (.refl _) (Yh b6 aA) ?_;rintro v cL M' -⟨rfl,cM,rfl⟩;refine a0.mk (λaa=>?_) (λaa=>?_);·refine cg.mk [] [] _ _ rfl rfl (bJ rfl) rfl ?_;refine aF.mk _ (yj (b:=cx) (e:=40) (.head _)) ?_;refine⟨_,_,.sub (ho _) .refl,?_,cM,rfl⟩;rw[g1,U,gS,aa];rfl
    ·have Yp:g1 aW g=match n3 [] 0 g.ds with
       |none=>6| some aM=>bif uR aM g.ds then 0 else 41:=by
      rw[g1,U,gS,aa];rfl
     rw[Yp];have kj:=aA.mono cM;refine bl.makeMap aV rfl (by simp) rfl rfl rfl λhP=>?_;refine cz.mk λeZ PZ Yq=>?_;refine cg.mk [] [⟨hP,hO []⟩,r1 cx 0] _ _ rfl rfl (bJ rfl) rfl ?_;refine dB.inv (ι:=Nat×List (ByteArray×Int)) (λx=>{ bj:=[(1,.ref 1 0),(2,.val (ptr cx)),(5,.val (ptr eZ)),(43,.val (.slice g.a g.n g.c)),(44,.val (.int .i64 g.n)),(45,.val (.int .i64 x.1))],cl:=[(1,[.slice g.a g.n g.c])],c5:=cL,dv:=[⟨eZ,.cells #[.map (some hP)] 96 (0,0)⟩,⟨hP,hO x.2⟩,r1 cx 0] }) (λx=>x.1<=g.n/\n3 [] 0 g.ds=n3 x.2 x.1 (g.ds.drop x.1)) (λx=>g.n-x.1) ?_ ?_;·exact⟨(0,[]),⟨by simp,rfl⟩,.refl,nF,.cons rfl .nil⟩
     ·rintro⟨i,aM⟩⟨hi,nR⟩;simp only at hi nR;refine a0.mk (λh=>?_) (λh=>?_)
      ·have aK:i<g.n:=by simpa using h
       have bP:i<g.ds.length:=by omega
       obtain⟨ad,b7,bs⟩:=kj.bd.row bE.de aK bP;have ji:g.ds.drop i=g.ds[i]::g.ds.drop (i+1):=fg bP;refine bc.mk ad i b7 rfl aK ?_;refine aF.mk _ (bs _) ?_;refine aF.mk [.map (some hP)] ⟨rfl,_,_,_,.inr ⟨_,.head _,rfl,rfl⟩,rfl,rfl⟩ ?_;refine bl.lookup aV rfl (by simp) rfl rfl rfl rfl (λw=>CA w) (l:=aM) (g:=hP) rfl rfl (by simp) ?_;refine a0.mk (λaf=>?_) (λaf=>?_);·refine cg.mk [⟨eZ,.cells #[.map (some hP)] 96 (0,0)⟩,⟨hP,hO aM⟩] [] _ _ rfl rfl (bJ rfl) rfl ?_;refine aF.mk _ (yj (b:=cx) (e:=6) (.tail _ (.tail _ (.head _)))) ?_;refine⟨_,_,.sub (ho _) .refl,?_,cM,rfl⟩;rw[nR,ji,n3,af];rfl
       ·have ar:dI g.ds[i].name aM=none:=by simpa using af
        refine aF.mk [.map (some hP)] ⟨rfl,_,_,_,.inr ⟨_,.head _,rfl,rfl⟩,rfl,rfl⟩ ?_;refine bl.PX aV rfl rfl rfl rfl rfl rfl rfl rfl rfl ar (Mr:=[⟨eZ,.cells #[.map (some hP)] 96 (0,0)⟩,r1 cx 0]) (List.Perm.swap _ _ _) ?_;refine a5.mk _ (cm (i:=i) (by omega)) ?_;refine⟨(i+1,aM++[(g.ds[i].name,(i:Int))]),⟨⟨by simp only;omega,?_⟩,by simp only;omega⟩,.perm (List.Perm.swap _ _ _) .refl,nF,.cons rfl .nil⟩;simp only;rw[nR,ji,n3,af];rfl
      ·have P0:g.n<=i:=by simpa using h
       have e4:n3 [] 0 g.ds=some aM:=by rw[nR,ir (by omega),n3]
       rw[e4];refine bb.mk [] [⟨eZ,.cells #[.map (some hP)] 96 (0,0)⟩,⟨hP,hO aM⟩,r1 cx 0] _ (.refl _) (Yj g) ?_;rintro v dP dr -⟨cu,rfl,JA,ht,rfl⟩;have jj:=kj.mono ht;have P1:∀ b o,I b=some o->dP b=some o:=λb o h=>ht _ _ (cM _ _ h);refine cW.range aV rfl rfl rfl .refl (Yk jj JA) (λvs h=>?_) (λk I' M'=>(∀ b o,dP b=some o->I' b=some o)/\((r0 0 g.ds).take k).all (λp=>wo aM p.2)=true/\M'=[⟨eZ,.cells #[.map (some hP)] 96 (0,0)⟩,⟨hP,hO aM⟩,r1 cx 0]) (λex I' M'=>ex=.ret/\(∀ b o,dP b=some o->I' b=some o)/\uR aM g.ds=false/\M'=[⟨eZ,.cells #[.map (some hP)] 96 (0,0)⟩,⟨hP,hO aM⟩,r1 cx 41]) ⟨λ_ _ h=>h,rfl,rfl⟩ ?_ ?_ ?_;·rw[Cz]at h;obtain⟨p,_,rfl⟩:=ej.1 h;rfl
       ·rintro k ae I' M' -⟨o6,bf,rfl⟩l B ao hp;have P2:k<(r0 0 g.ds).length:=by simpa[Cz]using ae
        generalize aG:(r0 0 g.ds)[k]=p;have ag:(qW 0 g.ds)[k]=[.int .i64 p.1,p.2.val]:=by simp only[Cz,lE,aG]
        rw[ag];have next:wo aM p.2=true->((r0 0 g.ds).take (k+1)).all (λp=>wo aM p.2)=true:=λh=>by rw[hU P2,FB,bf,aG];simp[h]
        refine a0.mk (λaf=>?_) (λaf=>?_)
        ·refine⟨_,_,.refl,o6,next ?_,rfl⟩;have hz:decide (p.2.k=3)=false:=by simpa using af
         simp[wo,hz]
        ·have hz:decide (p.2.k=3)=true:=by simpa using af
         refine aF.mk [.map (some hP)] ⟨rfl,_,_,_,.inr ⟨_,.head _,rfl,rfl⟩,rfl,rfl⟩ ?_;refine bl.lookup aV rfl (by simp) rfl rfl rfl rfl (λw=>CA w) (l:=aM) (g:=hP) rfl rfl (by simp) ?_;refine a0.mk (λaR=>?_) (λaR=>?_)
         ·refine cg.mk [⟨eZ,.cells #[.map (some hP)] 96 (0,0)⟩,⟨hP,hO aM⟩] [] _ _ rfl rfl (bJ rfl) rfl ?_;refine⟨_,_,.refl,rfl,o6,?_,rfl⟩;unfold uR;rw[Fz];have JB:(dI p.2.t aM).isSome=false:=by simpa using aR
          exact⟨p,by rw[<-aG];exact dK P2,by simp[wo,hz,JB]⟩
         ·have JB:(dI p.2.t aM).isSome=true:=by simpa using aR
          exact⟨_,_,.refl,o6,next (by simp[wo,JB]),rfl⟩
       ·rintro I' M' -⟨o6,bf,rfl⟩;have JC:uR aM g.ds=true:=by unfold uR;rw[hn (by simp[Cz])]at bf;exact bf
        refine cg.mk [⟨eZ,.cells #[.map (some hP)] 96 (0,0)⟩,⟨hP,hO aM⟩] [] _ _ rfl rfl (bJ rfl) rfl ?_;refine aF.mk _ (yj (b:=cx) (e:=0) (.tail _ (.tail _ (.head _)))) ?_;refine⟨_,_,.sub (ho _) .refl,?_,λb o h=>o6 _ _ (P1 _ _ h),rfl⟩;simp only[JC];rfl
       ·rintro ex I' M' -⟨rfl,o6,JC,rfl⟩;refine⟨by simp,?_⟩;refine aF.mk _ (yj (b:=cx) (e:=41) (.tail _ (.tail _ (.head _)))) ?_;refine⟨_,_,.sub (ho _) .refl,?_,λb o h=>o6 _ _ (P1 _ _ h),rfl⟩;simp only[JC];rfl
structure wq where
 a:Option Addr
 n:Nat
 c:Nat
 l:List Int
def wq.val(r:wq):Value:=.slice r.a r.n r.c
structure wq.ok(I:aS)(r:wq):Prop where
 bd:fb I r.a r.n r.c 1 8 (r.l.map (.int .i64 ·))
def wq.ok.n{r:wq}(h:r.ok I):r.l.length=r.n:=by have:=h.bd.len;simpa using this
structure g2 where
 rows:List wq
 a:Option Addr
 n:Nat
 c:Nat
def g2.val(x:g2):Value:=.slice x.a x.n x.c
structure g2.ok(I:aS)(x:g2):Prop where
 bd:fb I x.a x.n x.c 1 24 (x.rows.map wq.val)
 rows:∀ r∈x.rows,r.ok I
def g2.ok.n{x:g2}(h:x.ok I):x.rows.length=x.n:=by have:=h.bd.len;simpa using this
def qX:bk:=⟨none,0,0,[]⟩
def uS(size:Nat):qX.ok size []:=⟨by simp[qX],λ_=>⟨rfl,rfl⟩,λg h=>by cases h⟩
structure wu where
 a:Option Addr
 n:Nat
 c:Nat
 l:List Bool
def wu.val(r:wu):Value:=.slice r.a r.n r.c
structure wu.ok(I:aS)(r:wu):Prop where
 bd:fb I r.a r.n r.c 1 1 (r.l.map Value.bool)
def wu.ok.n{r:wu}(h:r.ok I):r.l.length=r.n:=by have:=h.bd.len;simpa using this
def P3{a6 post:List Value}{z:Value}{k:Nat}(ae:k=a6.length):bu (a6++z::post) k [v]=a6++v::post:=by
 subst ae;unfold bu;have e:(a6++z::post).drop (a6.length+[v].length)=post:=by rw[show a6++z::post=(a6++[z])++post from by simp];exact B0 (by simp)
 rw[e,qJ rfl];simp
structure FT where
 rows:List wu
 a:Option Addr
 n:Nat
 c:Nat
def FT.val(x:FT):Value:=.slice x.a x.n x.c
structure FT.ok(I:aS)(x:FT):Prop where
 bd:fb I x.a x.n x.c 1 24 (x.rows.map wu.val)
 rows:∀ r∈x.rows,r.ok I
def pg(W:World):aS:=λb=>W.heap[b]?
def Yr(W:World):dY (pg W) [] W:=⟨λb o h=>h,(λx ab=>by cases ab),(λx ab=>by cases ab),xt⟩
structure yk(W jm:World):Prop where
 c3:∀ b,b<W.heap.size->jm.heap[b]?=W.heap[b]?
 sz:W.heap.size<=jm.heap.size
 out:l5 W jm
def Ys{f:Nat}{args:List Value}{post:Value->aS->List ay->Prop}(h:uh P f args (pg W) [] post) :
  Calls P f args.toArray W λe jm=>∃ v,e=.returned v/\(∃ I' M',post v I' M')/\yk W jm:=by
 refine(h.2 W (Yr W)).mono ?_;rintro e jm⟨v,I',M',rfl,aG,_,e9⟩;exact⟨v,rfl,⟨I',M',aG⟩,λb ai=>e9.c3 b ai (λy aN=>by cases aN),e9.sz,e9.out⟩
def yk.kept(h:yk W jm)(may:MemPlace->Prop):W.keptBut jm may:=by
 refine⟨h.out.1,h.out.2,λi hi=>?_⟩;rw[h.c3 i hi];cases W.heap[i]? with
 |none=>rfl| some o=>cases o<;>simp
def yk.frozen(h:yk W jm){a:Addr}(aC:a.block<W.heap.size):jm.frozen? a=W.frozen? a:=by unfold World.frozen?;rw[h.c3 _ aC]
variable{H:Type}{enc:TypeId×Value->H}{P:Program}
def Yt{f:Func}{s:ChangeSpec}{apart fresh handsOn again:Bool}{args:Array Value}{ds gs:List (DataW H)}{before pa pv:List MemPlace}(fY:DataW.Whole enc P f.params.toList s.vars apart W args.toList ds gs before)(CB:∀ (b:Nat) (eF:Nat->Bool) (ah:Bool),DataW.TrodAll enc P jm b eF ah f.resultTypes.toList (v.resultList f.resultTypes.size) (s.fn H (ds++gs)).results [])(kQ:∀ eF:Nat->Bool,(∀ p∈before,eF p.block=true)->DataW.TrodAll enc P jm 0 eF true f.params.toList args.toList (s.fn H (ds++gs)).args pa)(P4:∀ eF:Nat->Bool,(∀ p∈before,eF p.block=true)->DataW.TrodVars enc P jm eF s.vars (s.fn H (ds++gs)).vars pv)(my:before=pa++pv)(ae:yk W jm)(bf:∀ (j:Nat) (t:TypeId) (r:Value),f.resultTypes[j]?=some t->(v.resultList f.resultTypes.size)[j]?=some r->Value.okWide P jm .any 0 t r) :
  s.post enc P f apart fresh handsOn again W args v jm:=by
 have hold:∀ p∈before,(λb=>decide (b<W.heap.size)) p.block=true:=λp aG=>by simpa using fY.lt p aG
 have aK:∀ p∈before,p.block<W.heap.size:=λp aG=>fY.lt p aG;refine⟨ds,gs,before,[],pa,pv,fY,CB _ _ _,kQ _ hold,P4 _ hold,World.keptBut_mono (λp aG=>⟨aG,?_⟩) (ae.kept (·∈before)),λ_=>?_⟩
 ·rw[my,eb]at aG;exact Or.inr aG
 ·obtain⟨_,_,_,_,_,bg,ax⟩:=fY;refine⟨bf,_,_,([]++pa)++pv,⟨[]++pa,pv,ChangeShapes.trodAll_append (kQ _ (λ_ _=>rfl)) (CB _ _ _),P4 _ (λ_ _=>rfl),rfl,?_,?_⟩,?_⟩
  ·intro b off aG;have z5:MemPlace.cell b off∈before:=by rw[my];simpa using aG
   rw[ae.frozen (a:=⟨b,off,none⟩) (aK _ z5)];exact bg b off z5
  ·intro aC;have:=ax aC;rw[my]at this;simpa using this
  ·intro p aG _;rw[my];simpa using aG
def uT:DataW H->Option Value
 | .lit (.int k z)=>some (.int k z)| .lit (.string l)=>some (.string ⟨l.toArray⟩)| .lit (.bool b)=>some (.bool b)| _=>none
def CC(P:Program)(e:TypeId):Bool:=match P.underlying e with
 |some .bool | some (.int _) | some .string=>true| _=>false
section
variable{w:World}{a3:Nat}{eF:Nat->Bool}{held:Bool}{ed:Nat}{t e:TypeId}{cs:List Value}{d:DataW H}{p:List MemPlace}
def P5(he:CC P e=true)(h:DataW.trod enc P w a3 eF held ed e cs=some (d,p))(ag:uT d=some v):cs=[v]:=by
 unfold CC at he;split at he
 ·rename_i hu;obtain⟨b,rfl,ab⟩:=DataW.trod_bool hu h;cases ab;simpa[uT]using ag
 ·rename_i k hu;obtain⟨n,rfl,ab,_⟩:=DataW.trod_int hu h;cases ab;simpa[uT]using ag
 ·rename_i hu;obtain⟨s,rfl,ab,_⟩:=FA hu h;cases ab;simpa[uT]using ag
 ·cases he
def FU{α β:Type}{f:α->Option β}:∀ {l:List α} {r:List β},l.mapM f=some r->r.length=l.length/\∀ i (h:i<l.length) (a':i<r.length),f l[i]=some r[i]
 |[],r,h=>by simp at h;subst h;exact⟨rfl,λi h=>by simp at h⟩
 |x::l,r,h=>by
  simp only[Bu,Option.bind_eq_bind,H3,Option.pure_def,iJ]at h;obtain⟨b,ai,rG,gj,rfl⟩:=h;obtain⟨U,aa⟩:=FU gj;refine⟨by simp[U],λi hi cw=>?_⟩;cases i with
  |zero=>simpa using ai| succ i=>simpa using aa i (by simpa using hi) (by simpa using cw)
def P6(ar:cs.length=vs.length)(h:∀ i (hi:i<vs.length),(cs.drop i).take 1=[vs[i]]):cs=vs:=by apply uD ar;intro i U aa;have:=h i aa;rw[fg U,qI,pR]at this;simpa using this
def P7{n:Nat}(av:P.underlying t=some (.array n e))(he:CC P e=true)(yl:P.cellsOf e=1)(iP:P.cellsOf t=n){ds:List (DataW H)}(h:DataW.trod enc P w a3 eF held ed t cs=some (.agg ds,p))(ag:ds.mapM uT=some vs):cs=vs:=by
 obtain⟨xs,m,rfl,ab,ar,kP,hi⟩:=Jg av h;have jn:ds=xs.map (·.1):=by have:=congrArg Prod.fst ab;simpa using this
 obtain⟨aT,aU⟩:=FU ag;have p7:vs.length=n:=by rw[aT,jn];simpa using kP
 refine P6 (by rw[ar,iP,p7]) λi cw=>?_;have U:=hi i (by omega);rw[yl,kd]at U;have r2:i<xs.length:=by omega
 rw[g0 r2]at U;have aa:=aU i (by rw[jn];simpa using r2) cw;have af:ds[i]'(by rw[jn];simpa using r2)=xs[i].1:=by simp[jn]
 rw[af]at aa;exact P5 he (d:=xs[i].1) (p:=xs[i].2) U aa
def Yu(av:P.underlying t=some (.struct b'))(az:∀ (i:Nat) (f:Field),b'[i]?=some f->CC P f.type=true/\f.offset=i/\P.cellsOf f.type=1)(iP:P.cellsOf t=b'.size){ds:List (DataW H)}(h:DataW.trod enc P w a3 eF held ed t cs=some (.agg ds,p))(ag:ds.mapM uT=some vs):cs=vs:=by
 obtain⟨xs,m,rfl,ab,ar,kP,hi⟩:=DataW.trod_struct av h;have jn:ds=xs.map (·.1):=by have:=congrArg Prod.fst ab;simpa using this
 obtain⟨aT,aU⟩:=FU ag;have p7:vs.length=b'.size:=by rw[aT,jn];simpa using kP
 refine P6 (by rw[ar,iP,p7]) λi cw=>?_;have P8:i<b'.size:=by omega
 obtain⟨dO,bL,fB⟩:=az i b'[i] (En P8);have U:=hi i b'[i] (En P8);rw[bL,fB]at U;have r2:i<xs.length:=by omega
 rw[g0 r2]at U;have aa:=aU i (by rw[jn];simpa using r2) cw;have af:ds[i]'(by rw[jn];simpa using r2)=xs[i].1:=by simp[jn]
 rw[af]at aa;exact P5 dO (d:=xs[i].1) (p:=xs[i].2) U aa
def P9{sz:Nat}:∀ (rows:List (List Value)) (cs:List Value),cs.length=rows.length*sz->(∀ i (hi:i<rows.length),(cs.drop (i*sz)).take sz=rows[i])->cs=rows.flatten
 |[],cs,ar,_=>l' (by simpa using ar)
 |r::rows,cs,ar,h=>by
  have ao:=h 0 (by simp);simp only[B1,zJ,xN]at ao;rw[e1,jG,oX]at ar;have be:=P9 (sz:=sz) rows (cs.drop sz) (by rw[vR];omega) λi hi=>by have:=h (i+1) (by simpa using hi);rw[xQ,show sz+i*sz=(i+1)*sz from by rw[jG];omega];simpa using this
  rw[Jd,<-be,<-ao,uB]
def Yv{n:Nat}(av:P.underlying t=some (.array n e))(yl:P.cellsOf e=sz)(iP:P.cellsOf t=n*sz){ds:List (DataW H)}(h:DataW.trod enc P w a3 eF held ed t cs=some (.agg ds,p))(al:rows.length=ds.length)
  (hx:∀ i (hi:i<ds.length) (cw:i<rows.length) ed cs p,DataW.trod enc P w a3 eF held ed e cs=some (ds[i],p)->cs=rows[i]):cs=rows.flatten:=by
 obtain⟨xs,m,rfl,ab,ar,kP,hi⟩:=Jg av h;have jn:ds=xs.map (·.1):=by have:=congrArg Prod.fst ab;simpa using this
 have gx:rows.length=n:=by rw[al,jn];simpa using kP
 refine P9 (sz:=sz) rows cs (by rw[ar,iP,gx]) λi cw=>?_;have U:=hi i (by omega);rw[yl]at U;have r2:i<xs.length:=by omega
 rw[g0 r2]at U;have af:ds[i]'(by rw[jn];simpa using r2)=xs[i].1:=by simp[jn]
 exact hx i (by rw[jn];simpa using r2) cw m _ xs[i].2 (by rw[af];exact U)
def P'(d:DataW H):Option (List Value):=match d with
 | .agg l=>l.mapM uT| _=>none
def JD{n:Nat}(av:P.underlying t=some (.array n e))(yl:P.cellsOf e=sz)(iP:P.cellsOf t=n*sz){ds:List (DataW H)}(h:DataW.trod enc P w a3 eF held ed t cs=some (.agg ds,p))(al:ds.mapM P'=some rows)
  (hx:∀ ed cs p l row,DataW.trod enc P w a3 eF held ed e cs=some (.agg l,p)->l.mapM uT=some row->cs=row):cs=rows.flatten:=by
 obtain⟨aT,aU⟩:=FU al;refine Yv av yl iP h aT λi hi cw ed cs p a'=>?_;have aa:=aU i hi cw;unfold P' at aa;split at aa
 ·rename_i l ar;rw[ar]at a';exact hx _ _ _ _ _ a' aa
 ·cases aa
end
end Go.V
namespace Go.V
open Go Go.Proofs
variable{I I':aS}{M:List ay}{os:bk}{α:Type}{size i sz ed a3 m:Nat}{aW:List Int}{d:a9}{hi:Int}{P:Program}{t:dG}{x y:Operand}{other:Prop}{g:dX}{w z f:Bool}{F:Fr}{C:c2}{vs cs:List Value}{X:cD}{s:ByteArray}{dc qT:dz}{v:Value}{W jm:World}{b':Array Field}{rows:List (List Value)}{p:List MemPlace}
def FV{n:String}{g:Nat}{cs:Array Value}(aA:P.globalNamed n=some g)(h:W.var? P n=some cs):∃ T aj,W.heap[g]?=some (.cells cs T aj):=by
 simp only[World.var?,aA,Option.bind_some]at h;split at h
 ·rename_i c T aj bA;cases h;exact⟨T,aj,bA⟩
 ·cases h
def mz:List Int:=[0,1,56,2,57,49,28,3,61,58,42,50,38,29,17,4,62,47,59,36,45,43,51,22,53,39,33,30,24,18,12,5,63,55,48,27,60,41,37,16,46,35,44,21,52,32,23,11,54,26,40,15,34,20,31,10,25,14,19,9,13,8,7,6]
def Yw{a2:List (String×DataW Unit)}(h:laidMet Tryz.prog ([("math/bits.deBruijn32tab",YtjambecdkaahmaaGreatDoor.Rows.laid_math_bits_deBruijn32tab),("math/bits.deBruijn64tab",YtjambecdkaahmaaGreatDoor.Rows.laid_math_bits_deBruijn64tab),("internal/strconv.uint64pow10",YtjambecdkaahmaaGreatDoor.Rows.laid_internal_strconv_uint64pow10),("bonsai/tree.counts",YtjambecdkaahmaaGreatDoor.Rows.laid_bonsai_tree_counts),("bonsai/print.counts",YtjambecdkaahmaaGreatDoor.Rows.laid_bonsai_print_counts),("bonsai/print.signs",YtjambecdkaahmaaGreatDoor.Rows.laid_bonsai_print_signs)]++a2) W):ix (pg W) mz:=by
 obtain⟨ps,c7,_⟩:=h;obtain⟨aT,t1,ah3,f1,m3,eY,kj,wh,xG,hc,c7,_⟩:=c7;obtain⟨aU,t2,Yx,f2,o5,ez,jj,nb,vF,nf,c7,_⟩:=c7;obtain⟨bG,t3,ah4,f3,ym,ga,ml,ah5,tf,FW,c7,_⟩:=c7;obtain⟨fk,t4,Yy,f4,Yz,jk,yh,JE,JF,YA,c7,_⟩:=c7;obtain⟨mX,t5,YB,f5,ah6,ah7,Qa,YC,FX,YD,c7,_⟩:=c7;obtain⟨FY,t6,YE,f6,ah8,ah9,Qb,YF,YG,YH,c7,_⟩:=c7;obtain rfl:=m6 ((show Tryz.prog.globalNamed "math/bits.deBruijn64tab" = some 5 by kernel_rfl).symm.trans jj)
 obtain rfl:=m6 ((show(Tryz.prog.globals[5]?).map (·.type)=some 390 by kernel_rfl).symm.trans nb);obtain rfl:=m6 ((show Tryz.prog.globalNamed "bonsai/tree.counts" = some 0 by kernel_rfl).symm.trans yh)
 obtain rfl:=m6 ((show(Tryz.prog.globals[0]?).map (·.type)=some 262 by kernel_rfl).symm.trans JE);obtain rfl:=m6 ((show Tryz.prog.globalNamed "bonsai/print.counts" = some 3 by kernel_rfl).symm.trans Qa)
 obtain rfl:=m6 ((show(Tryz.prog.globals[3]?).map (·.type)=some 388 by kernel_rfl).symm.trans YC);obtain rfl:=m6 ((show Tryz.prog.globalNamed "bonsai/print.signs" = some 1 by kernel_rfl).symm.trans Qb)
 obtain rfl:=m6 ((show(Tryz.prog.globals[1]?).map (·.type)=some 353 by kernel_rfl).symm.trans YF);obtain⟨yb,eG,cx⟩:=FV jj vF;obtain⟨Ju,lQ,fm⟩:=FV yh JF;obtain⟨YI,qY,eZ⟩:=FV Qa FX;obtain⟨YJ,CD,bQ⟩:=FV Qb YG;have eL:Yx.toList=mz.map (Value.int .u8):=P7 (show Tryz.prog.underlying 390=some (.array 64 5) by kernel_rfl) (by kernel_rfl) (by kernel_rfl) (by kernel_rfl) nf (by kernel_rfl);have uU:Yy.toList=lJ.map (Value.int .i64):=JD (n:=10) (sz:=2) (show Tryz.prog.underlying 262=some (.array 10 261) by kernel_rfl) (by kernel_rfl) (by kernel_rfl) YA (rows:=[[.int .i64 0,.int .i64 0],[.int .i64 0,.int .i64 0],[.int .i64 0,.int .i64 0],[.int .i64 0,.int .i64 0],[.int .i64 2,.int .i64 (-1)],[.int .i64 2,.int .i64 (-1)],[.int .i64 1,.int .i64 1],[.int .i64 1,.int .i64 1],[.int .i64 1,.int .i64 1],[.int .i64 1,.int .i64 1]]) (by kernel_rfl) (λ_ _ _ _ _ U aa=>P7 (show Tryz.prog.underlying 261=some (.array 2 3) by kernel_rfl) (by kernel_rfl) (by kernel_rfl) (by kernel_rfl) U aa);have fields:∀ {t:TypeId},(match Tryz.prog.underlying t with
   |some (.struct b')=>decide (Tryz.prog.cellsOf t=b'.size)&&(List.range b'.size).all λi=>match b'[i]? with
    |some f=>CC Tryz.prog f.type&&(decide (f.offset=i)&&decide (Tryz.prog.cellsOf f.type=1))| none=>false
   |_=>false)=true->∀ (ed:Nat) (cs:List Value) (p:List MemPlace) (l:List (DataW Unit)) (row:List Value),DataW.trod (λ_=>()) Tryz.prog W 0 (λ_=>true) false ed t cs=some (.agg l,p)->l.mapM uT=some row->cs=row:=by
  intro t aL ed cs p l row U aa;split at aL;·rename_i b' hu;simp only[b3,e0,gi,l3]at aL;refine Yu hu (λi f az=>?_) aL.1 U aa;have hi:=aL.2 i (jS.1 az).1;rw[az]at hi;simpa using hi
  ·cases aL
 have FZ:YB.toList=Co:=JD (n:=3) (sz:=3) (show Tryz.prog.underlying 388=some (.array 3 387) by kernel_rfl) (by kernel_rfl) (by kernel_rfl) YD (rows:=[[.int .i64 0,.int .i64 1,.string ⟨#[63]⟩],[.int .i64 0,.int .i64 (-1),.string ⟨#[42]⟩],[.int .i64 1,.int .i64 (-1),.string ⟨#[43]⟩]]) (by kernel_rfl) (fields (by kernel_rfl));have Qc:YE.toList=rU.map λl=>Value.string (strOf l):=JD (n:=10) (sz:=3) (show Tryz.prog.underlying 353=some (.array 10 352) by kernel_rfl) (by kernel_rfl) (by kernel_rfl) YH (rows:=[[.string ⟨#[]⟩,.string ⟨#[]⟩,.string ⟨#[]⟩],[.string ⟨#[]⟩,.string ⟨#[]⟩,.string ⟨#[]⟩],[.string ⟨#[]⟩,.string ⟨#[]⟩,.string ⟨#[]⟩],[.string ⟨#[]⟩,.string ⟨#[]⟩,.string ⟨#[]⟩],[.string ⟨#[]⟩,.string ⟨#[32]⟩,.string ⟨#[]⟩],[.string ⟨#[]⟩,.string ⟨#[32,47,32]⟩,.string ⟨#[]⟩],[.string ⟨#[]⟩,.string ⟨#[]⟩,.string ⟨#[]⟩],[.string ⟨#[38]⟩,.string ⟨#[]⟩,.string ⟨#[]⟩],[.string ⟨#[33]⟩,.string ⟨#[]⟩,.string ⟨#[]⟩],[.string ⟨#[60]⟩,.string ⟨#[]⟩,.string ⟨#[62]⟩]]) (by kernel_rfl) (fields (by kernel_rfl));have arr:∀ {cs:Array Value} {l:List Value},cs.toList=l->cs=l.toArray:=λh=>by apply fM;simpa using h
 refine⟨⟨Ju,lQ,?_⟩,⟨YI,qY,?_⟩,⟨YJ,CD,?_⟩,by decide,by decide,yb,eG,?_⟩
 ·rw[<-arr uU];exact fm
 ·rw[<-arr FZ];exact eZ
 ·rw[<-arr Qc];exact bQ
 ·rw[<-arr eL];exact cx
def z6(cs:Array Value):Obj->Obj
 | .cells _ t aj=>.cells cs t aj| o=>o
def YK:List Int:=(List.range 20).map λi=>(10:Int)^i
def YL:List Int:=[0,1,28,2,29,14,24,3,30,22,20,15,25,17,4,8,31,27,13,23,21,19,16,7,26,12,18,6,11,5,10,9]
noncomputable def JG(os:Os):World:=
 { World.holding Tryz.prog os ⟨#[],#[],[]⟩with heap:=((((((World.holding Tryz.prog os ⟨#[],#[],[]⟩).heap.modify 0 (z6 (lJ.map (Value.int .i64)).toArray)).modify 3 (z6 Co.toArray)).modify 1 (z6 (rU.map λl=>Value.string (strOf l)).toArray)).modify 5 (z6 (mz.map (Value.int .u8)).toArray)).modify 2 (z6 (YK.map (Value.int .u64)).toArray)).modify 4 (z6 (YL.map (Value.int .u8)).toArray) }
def own:ownKnob Tryz.prog.godebug=none:=by kernel_rfl
def laidOut:laidOutB Tryz.prog=true:=by kernel_rfl
def Qd{l:List α}{q:α->Bool}(h:l.all q=true){x:α}(ab:x∈l):q x=true:=gi.1 h x ab
def YM{L:List (String×DataW Unit)}(c7:laidMetH Tryz.prog L W)(he:L=[("math/bits.deBruijn32tab",YtjambecdkaahmaaGreatDoor.Rows.laid_math_bits_deBruijn32tab),("math/bits.deBruijn64tab",YtjambecdkaahmaaGreatDoor.Rows.laid_math_bits_deBruijn64tab),("internal/strconv.uint64pow10",YtjambecdkaahmaaGreatDoor.Rows.laid_internal_strconv_uint64pow10),("bonsai/tree.counts",YtjambecdkaahmaaGreatDoor.Rows.laid_bonsai_tree_counts),("bonsai/print.counts",YtjambecdkaahmaaGreatDoor.Rows.laid_bonsai_print_counts),("bonsai/print.signs",YtjambecdkaahmaaGreatDoor.Rows.laid_bonsai_print_signs)]):ix (pg W) mz:=by
 subst he;exact Yw (a2:=[]) c7
structure yn(I:aS)(d:a9):Prop where
 k:0<=d.k/\d.k<256
 dJ:eh d.dJ
 s1:eh d.s1
 s2:eh d.s2
 dQ:eh d.dQ
 lo:mY d.lo
 hi:mY d.hi
 bd:fb I d.kg d.kn d.jc 1 0 (d.aX.map (.int .i64 ·))
 aX:∀ x∈d.aX,mY x
 ts:d.t.size<=9223372036854775807
structure wv(I:aS)(t:dG):Prop where
 bd:fb I t.a t.n t.c 9 0 (t.ns.flatMap a9.cells)
 ns:∀ d∈t.ns,yn I d
 b1:mY t.b1
structure CE(I:aS)(d:bE):Prop where
 name:d.name.size<=9223372036854775807
 t:wv I d.t
structure tg(I:aS)(g:dX):Prop where
 bd:fb I g.a g.n g.c 3 0 (g.ds.flatMap bE.cells)
 ds:∀ d∈g.ds,CE I d
def fb.z7{a:Option Addr}{n c b hX:Nat}(h:fb I a n c size b vs)(ai:n*hX<=140737488355328):fb I a n c size hX vs:=⟨h.len,⟨h.cap.1,ai⟩,h.rd⟩
structure Qe(d:a9):Prop where
 kn:d.kn<2500
structure Qf(d:bE):Prop where
 name:d.name.size<2500
 n:d.t.n<2500
 ns:∀ ch∈d.t.ns,Qe ch
structure YN(g:dX):Prop where
 n:g.n<2500
 ds:∀ d∈g.ds,Qf d
def yn.ok(h:yn I d)(ap:Qe d):d.ok I:=
 ⟨h.k,h.dJ,h.s1,h.s2,h.dQ,h.ts,h.lo,h.hi,h.bd.z7 (by have:=ap.kn;omega),h.aX⟩
def CE.ok{d:bE}(h:CE I d)(ap:Qf d):d.ok I:=
 ⟨by have:=ap.name;omega,⟨h.t.bd.z7 (by have:=ap.n;omega),λch cJ=>(h.t.ns ch cJ).ok (ap.ns ch cJ),h.t.b1⟩⟩
def tg.ok(h:tg I g)(ap:YN g):g.ok I:=
 ⟨h.bd.z7 (by have:=ap.n;omega),λd ah=>(h.ds d ah).ok (ap.ds d ah)⟩
def tg.n(h:tg I g):g.ds.length=g.n:=by have:=h.bd.len;rw[hb _ 3 bE.de]at this;omega
def wv.n(h:wv I t):t.ns.length=t.n:=by have:=h.bd.len;rw[hb _ 9 a9.de]at this;omega
def gB{x r:Int}(h:x=r)(al:-9223372036854775808<=r/\r<=9223372036854775807):IntKind.i64.wrap x=r:=by rw[h];exact wrap_i64 al
section
variable{H:Type}{enc:TypeId×Value->H}{P:Program}{W:World}{a3:Nat}{eF:Nat->Bool}{held:Bool}
def Qg{α:Type}{p:Nat->α->Prop}:∀ (n:Nat),(∀ i,i<n->∃ d,p i d)->∃ l:List α,l.length=n/\∀ i (h:i<l.length),p i l[i]
 |0,_=>⟨[],rfl,λi h=>by simp at h⟩
 |n+1,h=>by
  obtain⟨l,U,aa⟩:=Qg n λi hi=>h i (by omega);obtain⟨d,ah⟩:=h n (by omega);refine⟨l++[d],by simp[U],λi hi=>?_⟩;by_cases aK:i<l.length;·rw[Fu aK];exact aa i aK
  ·have e:i=l.length:=by simp at hi;omega
   subst e;simpa[U]using ah
def JH{f:α->List Value}(ap:0<size)(az:∀ x,(f x).length=size)(ok:α->Prop){t e:TypeId}(av:P.underlying t=some (.slice e))(aL:P.cellsOf e=size)(hx:∀ ed cs x,DataW.trod enc P W a3 eF held ed e cs=some x->∃ d,cs=f d/\ok d){x:DataW H×List MemPlace}(h:DataW.trod enc P W a3 eF held ed t cs=some x) :
  ∃ (a:Option Addr) (n c:Nat) (l:List α),cs=[.slice a n c]/\fb (pg W) a n c size 0 (l.flatMap f)/\l.length=n/\(∀ d∈l,ok d)/\(a=none->c=0)/\c<=maxLen:=by
 rcases DataW.trod_slice av h with⟨rfl,_⟩ | ⟨a,len,cap,aia,a2,m,_,rfl,_,ai,ar,hm,bV,YO,_,_⟩
 ·exact⟨none,0,0,[],rfl,⟨by simp,⟨cC _,by omega⟩,.inl rfl⟩,rfl,λd ah=>by simp at ah,λ_=>rfl,by unfold maxLen;omega⟩
 have each:∀ i,i<len->∃ d,ok d/\W.cells? a3 (a.add (i*size)) size=some (f d):=λi hi=>by have U:=YO i hi;rw[aL,g0 (by omega)]at U;obtain⟨cs',aa,af⟩:=H3.1 U;obtain⟨d,rfl,ah⟩:=hx _ _ _ af;exact⟨d,ah,aa⟩
 obtain⟨l,oI,JI⟩:=Qg len each;refine⟨some a,len,cap,l,rfl,⟨by rw[hb f size az,oI],⟨ar,by omega⟩,?_⟩,oI,λd ah=>?_,λh=>by simp at h,hm⟩
 ·by_cases ao:len=0
  ·exact .inl ao
  right
  have jK:=(JI 0 (by omega)).2;obtain⟨-,-,CF⟩:=World.cells?_some jK;have F0:=CF 0 ap;rw[g0 (by rw[az];exact ap)]at F0;have Qh:a.spot=none:=by
   have:=World.cell?_spot F0;cases b0:a.spot with
   |none=>rfl| some s=>simp[Addr.add,b0]at this
  refine⟨a,rfl,Qh,?_⟩;have Qi:∀ i (hi:i<l.length),∀ k,k<size->W.cell? ⟨a.block,a.off+(i*size+k),none⟩=(f l[i])[k]?:=λi hi k ae=>by obtain⟨-,-,bA⟩:=World.cells?_some (JI i hi).2;have:=bA k ae;rw[dS _ Qh,dS _ rfl]at this;rw[<-this];congr 2;simp only[];omega
  have JJ:∃ cs T aj,W.heap[a.block]?=some (.cells cs T aj):=by
   have U:=Qi 0 (by omega) 0 ap;rw[g0 (by rw[az];exact ap)]at U;unfold World.cell? at U;cases bA:W.heap[a.block]? with
   |none=>simp[bA]at U
   |some o=>
    cases o with
    |cells cs T aj=>exact⟨cs,T,aj,rfl⟩| _=>simp[bA]at U
  obtain⟨cs,T,aj,bA⟩:=JJ;refine⟨cs,T,aj,bA,?_⟩;have n4:=hb f size az l;apply E9;intro j;by_cases an:j<len*size
  ·have hdiv:j/size<l.length:=by rw[oI];exact Nat.div_lt_of_lt_mul (by rw[Nat.mul_comm];exact an)
   have uV:=Nat.mod_lt j ap;have e:=Nat.div_add_mod j size;rw[Nat.mul_comm]at e;have U:=Qi (j/size) hdiv (j%size) uV;rw[e]at U;have aa:=rM f size az l (j/size) hdiv;have af:(l.flatMap f)[j]?=(f l[j/size])[j%size]?:=by rw[<-aa,kx,cK uV,pI,e]
   rw[af,<-U,kx,cK an,pI];simp[World.cell?,bA]
  ·rw[xo (by rw[ma];omega),xo (by rw[n4,oI];omega)]
 ·obtain⟨i,hi,rfl⟩:=x6 ah;exact(JI i hi).1
def z8{k:IntKind}{t:TypeId}{x:DataW H×List MemPlace}(av:P.underlying t=some (.int k))(h:DataW.trod enc P W a3 eF held ed t cs=some x):∃ n,cs=[.int k n]/\(Lit.int k n).wf=true:=by obtain⟨n,U,_,aa⟩:=DataW.trod_int av h;exact⟨n,U,aa⟩
def wf_i64{n:Int}(h:(Lit.int .i64 n).wf=true):mY n:=by simp[Lit.wf,IntKind.min,IntKind.max,IntKind.signed,IntKind.bits]at h;exact h
def wf_u64{n:Int}(h:(Lit.int .u64 n).wf=true):eh n:=by simp[Lit.wf,IntKind.min,IntKind.max,IntKind.signed,IntKind.bits]at h;unfold eh;omega
def wf_u8{n:Int}(h:(Lit.int .u8 n).wf=true):0<=n/\n<256:=by simp[Lit.wf,IntKind.min,IntKind.max,IntKind.signed,IntKind.bits]at h;omega
end
section
variable{H:Type}{enc:TypeId×Value->H}{W:World}{a3:Nat}{eF:Nat->Bool}{held:Bool}
def YP{x:DataW H×List MemPlace}(h:DataW.trod enc Tryz.prog W a3 eF held ed 70 cs=some x) :
  ∃ (a:Option Addr) (n c:Nat) (l:List Int),cs=[.slice a n c]/\fb (pg W) a n c 1 0 (l.map (.int .i64 ·))/\l.length=n/\∀ k∈l,mY k:=by
 obtain⟨a,n,c,l,U,aa,af,aR,-,-⟩:=JH (f:=λk=>[Value.int .i64 k]) (size:=1) (by decide) (λ_=>rfl) mY (show Tryz.prog.underlying 70=some (.slice 3) by kernel_rfl) (by kernel_rfl)
  (λed cs x h=>by
   obtain⟨n,U,aa⟩:=z8 (show Tryz.prog.underlying 3=some (.int .i64) by kernel_rfl) h;exact⟨n,U,wf_i64 aa⟩) h
 refine⟨a,n,c,l,U,?_,af,aR⟩;rwa [<-List.map_eq_flatMap]at aa
def YQ{l:List α}(h:l.length=4):∃ a b c d,l=[a,b,c,d]:=by
 match l,h with
 |[a,b,c,d],_=>exact⟨a,b,c,d,rfl⟩
def YR{l:List α}(h:l.length=9):∃ a b c d e f g i j,l=[a,b,c,d,e,f,g,i,j]:=by
 match l,h with
 |[a,b,c,d,e,f,g,i,j],_=>exact⟨a,b,c,d,e,f,g,i,j,rfl⟩
def YS{l:List α}(h:l.length=3):∃ a b c,l=[a,b,c]:=by
 match l,h with
 |[a,b,c],_=>exact⟨a,b,c,rfl⟩
def YT{l:List α}(h:l.length=2):∃ a b,l=[a,b]:=by
 match l,h with
 |[a,b],_=>exact⟨a,b,rfl⟩
def YU{l:List α}(h:l.length=1):∃ a,l=[a]:=by
 match l,h with
 |[a],_=>exact⟨a,rfl⟩
def YV{x:DataW H×List MemPlace}(h:DataW.trod enc Tryz.prog W a3 eF held ed 49 cs=some x) :
  ∃ a b c d:Int,cs=[.int .u64 a,.int .u64 b,.int .u64 c,.int .u64 d]/\eh a/\eh b/\eh c/\eh d:=by
 obtain⟨xs,m,_,_,ar,kP,hi⟩:=Jg (show Tryz.prog.underlying 49=some (.array 4 47) by kernel_rfl) h;rw[show Tryz.prog.cellsOf 49=4 by kernel_rfl]at ar;rw[show Tryz.prog.cellsOf 47=1 by kernel_rfl]at hi;have hu:Tryz.prog.underlying 47=some (.int .u64):=by kernel_rfl
 obtain⟨a,b,c,d,rfl⟩:=YQ ar;have get:∀ i,(ka:i<4)->∃ n,(([a,b,c,d]:List Value).drop (i*1)).take 1=[.int .u64 n]/\eh n:=λi ka=>by have U:=hi i ka;rw[g0 (by omega)]at U;obtain⟨n,aa,af⟩:=z8 hu U;exact⟨n,aa,wf_u64 af⟩
 obtain⟨n0,cv,p8⟩:=get 0 (by decide);obtain⟨hs,aw,dO⟩:=get 1 (by decide);obtain⟨kO,aB,bL⟩:=get 2 (by decide);obtain⟨z9,bD,fB⟩:=get 3 (by decide);simp at cv aw aB bD;subst cv aw aB bD;exact⟨_,_,_,_,rfl,p8,dO,bL,fB⟩
def CG{t:Nat}{l:List (Nat×Nat)}(h:(match P.underlying t with
  |some (.struct b')=>decide (b'.toList.map (λf=>(f.type,f.offset))=l)| _=>false)=true):∃ b',P.underlying t=some (.struct b')/\b'.toList.map (λf=>(f.type,f.offset))=l:=by
 split at h
 ·rename_i b' hu;exact⟨b',hu,du h⟩
 ·cases h
def F1{P:Program}{l:List (Nat×Nat)}{q:Nat->Nat->Prop}(az:b'.toList.map (λf=>(f.type,f.offset))=l)(h:∀ (i:Nat) (f:Field),b'[i]?=some f->q f.type f.offset):∀ (i t o:Nat),l[i]?=some (t,o)->q t o:=by subst az;intro i t o hi;simp only[zs,sE,Prod.mk.injEq]at hi;obtain⟨f,U,rfl,rfl⟩:=hi;exact h i f (by simpa using U)
def F2{t:TypeId}{x:DataW H×List MemPlace}(av:P.underlying t=some (.struct b'))(h:DataW.trod enc P W a3 eF held ed t cs=some x) :
  cs.length=P.cellsOf t/\∀ (i:Nat) (f:Field),b'[i]?=some f->∃ ed y,DataW.trod enc P W a3 eF held ed f.type ((cs.drop f.offset).take (P.cellsOf f.type))=some y:=by
 obtain⟨xs,m,_,_,ar,kP,hi⟩:=DataW.trod_struct av h;refine⟨ar,λi f az=>?_⟩;have aK:=(jS.1 az).1;have U:=hi i f az;rw[g0 (by omega)]at U;exact⟨_,_,U⟩
def YW{x:DataW H×List MemPlace}(h:DataW.trod enc Tryz.prog W a3 eF held ed 83 cs=some x):∃ d:a9,cs=d.cells/\yn (pg W) d:=by obtain⟨b',av,az⟩:∃ b',Tryz.prog.underlying 83=some (.struct b')/\b'.toList.map (λf=>(f.type,f.offset))=[(5,0),(49,1),(9,5),(3,6),(3,7),(70,8)]:=CG (by kernel_rfl);obtain⟨ar,hi⟩:=F2 av h;have hi:∀ (i t o:Nat),[(5,0),(49,1),(9,5),(3,6),(3,7),(70,8)][i]?=some (t,o)->∃ ed y,DataW.trod enc Tryz.prog W a3 eF held ed t ((cs.drop o).take (Tryz.prog.cellsOf t))=some y:=F1 (P:=Tryz.prog) az hi;rw[show Tryz.prog.cellsOf 83=9 by kernel_rfl]at ar;obtain⟨jK,eE,eL,h3,uU,FZ,Qc,aib,aic,rfl⟩:=YR ar;obtain⟨_,_,ao⟩:=hi 0 _ _ rfl;obtain⟨_,_,U⟩:=hi 1 _ _ rfl;obtain⟨_,_,aa⟩:=hi 2 _ _ rfl;obtain⟨_,_,af⟩:=hi 3 _ _ rfl;obtain⟨_,_,aR⟩:=hi 4 _ _ rfl;obtain⟨_,_,bC⟩:=hi 5 _ _ rfl;rw[show Tryz.prog.cellsOf 5=1 by kernel_rfl]at ao;rw[show Tryz.prog.cellsOf 49=4 by kernel_rfl]at U;rw[show Tryz.prog.cellsOf 9=1 by kernel_rfl]at aa;rw[show Tryz.prog.cellsOf 3=1 by kernel_rfl]at af aR;rw[show Tryz.prog.cellsOf 70=1 by kernel_rfl]at bC;obtain⟨k,cv,YX⟩:=z8 (show Tryz.prog.underlying 5=some (.int .u8) by kernel_rfl) ao;obtain⟨a,b,c,d,aw,hK,kI,me,iu⟩:=YV U;obtain⟨s,aB,-,ws⟩:=FA (show Tryz.prog.underlying 9=some .string by kernel_rfl) aa;obtain⟨lo,bD,wl⟩:=z8 (show Tryz.prog.underlying 3=some (.int .i64) by kernel_rfl) af;obtain⟨cw,dH,YY⟩:=z8 (show Tryz.prog.underlying 3=some (.int .i64) by kernel_rfl) aR;obtain⟨kg,kn,jc,aX,gJ,qC,dR,m0⟩:=YP bC;simp at cv aw aB bD dH gJ;obtain⟨JK,JL,YZ,Y0⟩:=aw;subst cv JK JL YZ Y0 aB bD dH gJ;exact⟨⟨k,a,b,c,d,s,lo,cw,kg,kn,jc,aX⟩,rfl,wf_u8 YX,hK,kI,me,iu,wf_i64 wl,wf_i64 YY,qC,m0,by unfold maxLen at ws;omega⟩
def Y1{x:DataW H×List MemPlace}(h:DataW.trod enc Tryz.prog W a3 eF held ed 28 cs=some x):∃ t:dG,cs=t.cells/\wv (pg W) t:=by obtain⟨b',av,az⟩:∃ b',Tryz.prog.underlying 28=some (.struct b')/\b'.toList.map (λf=>(f.type,f.offset))=[(26,0),(3,1)]:=CG (by kernel_rfl);obtain⟨ar,hi⟩:=F2 av h;have hi:∀ (i t o:Nat),[(26,0),(3,1)][i]?=some (t,o)->∃ ed y,DataW.trod enc Tryz.prog W a3 eF held ed t ((cs.drop o).take (Tryz.prog.cellsOf t))=some y:=F1 (P:=Tryz.prog) az hi;rw[show Tryz.prog.cellsOf 28=2 by kernel_rfl]at ar;obtain⟨jK,eE,rfl⟩:=YT ar;obtain⟨_,_,ao⟩:=hi 0 _ _ rfl;obtain⟨_,_,U⟩:=hi 1 _ _ rfl;rw[show Tryz.prog.cellsOf 26=1 by kernel_rfl]at ao;rw[show Tryz.prog.cellsOf 3=1 by kernel_rfl]at U;obtain⟨a,n,c,l,cv,qC,ax,bf,-,-⟩:=JH (f:=a9.cells) (size:=9) (by decide) a9.de (yn (pg W)) (show Tryz.prog.underlying 26=some (.slice 83) by kernel_rfl) (by kernel_rfl) (λed cs x h=>YW h) ao;obtain⟨r,aw,wr⟩:=z8 (show Tryz.prog.underlying 3=some (.int .i64) by kernel_rfl) U;simp at cv aw;subst cv aw;exact⟨⟨l,a,n,c,r⟩,rfl,qC,bf,wf_i64 wr⟩
def Y2{x:DataW H×List MemPlace}(h:DataW.trod enc Tryz.prog W a3 eF held ed 58 cs=some x):∃ d:bE,cs=d.cells/\CE (pg W) d:=by obtain⟨b',av,az⟩:∃ b',Tryz.prog.underlying 58=some (.struct b')/\b'.toList.map (λf=>(f.type,f.offset))=[(9,0),(28,1)]:=CG (by kernel_rfl);obtain⟨ar,hi⟩:=F2 av h;have hi:∀ (i t o:Nat),[(9,0),(28,1)][i]?=some (t,o)->∃ ed y,DataW.trod enc Tryz.prog W a3 eF held ed t ((cs.drop o).take (Tryz.prog.cellsOf t))=some y:=F1 (P:=Tryz.prog) az hi;rw[show Tryz.prog.cellsOf 58=3 by kernel_rfl]at ar;obtain⟨jK,eE,eL,rfl⟩:=YS ar;obtain⟨_,_,ao⟩:=hi 0 _ _ rfl;obtain⟨_,_,U⟩:=hi 1 _ _ rfl;rw[show Tryz.prog.cellsOf 9=1 by kernel_rfl]at ao;rw[show Tryz.prog.cellsOf 28=2 by kernel_rfl]at U;obtain⟨s,cv,-,ws⟩:=FA (show Tryz.prog.underlying 9=some .string by kernel_rfl) ao;obtain⟨t,aw,av⟩:=Y1 U;simp[dG.cells]at cv aw;obtain⟨JK,JL⟩:=aw;subst cv JK JL;exact⟨⟨s,t⟩,rfl,by unfold maxLen at ws;exact ws,av⟩
def Y3{x:DataW H×List MemPlace}(h:DataW.trod enc Tryz.prog W a3 eF held ed 24 cs=some x):∃ g:dX,cs=[.slice g.a g.n g.c]/\tg (pg W) g:=by obtain⟨b',av,az⟩:∃ b',Tryz.prog.underlying 24=some (.struct b')/\b'.toList.map (λf=>(f.type,f.offset))=[(22,0)]:=CG (by kernel_rfl);obtain⟨ar,hi⟩:=F2 av h;have hi:∀ (i t o:Nat),[(22,0)][i]?=some (t,o)->∃ ed y,DataW.trod enc Tryz.prog W a3 eF held ed t ((cs.drop o).take (Tryz.prog.cellsOf t))=some y:=F1 (P:=Tryz.prog) az hi;rw[show Tryz.prog.cellsOf 24=1 by kernel_rfl]at ar;obtain⟨jK,rfl⟩:=YU ar;obtain⟨_,_,ao⟩:=hi 0 _ _ rfl;rw[show Tryz.prog.cellsOf 22=1 by kernel_rfl]at ao;obtain⟨a,n,c,l,cv,qC,ax,bf,-,-⟩:=JH (f:=bE.cells) (size:=3) (by decide) bE.de (CE (pg W)) (show Tryz.prog.underlying 22=some (.slice 58) by kernel_rfl) (by kernel_rfl) (λed cs x h=>Y2 h) ao;exact⟨⟨l,a,n,c⟩,cv,qC,bf⟩
def Y4{w:World}{r:Reach}{t:Nat}(av:P.underlying t=some (.struct b'))(h:Value.okWide P w r a3 t v):∃ cs,v=.agg cs:=by obtain⟨cs,U,-⟩:=Go.WideShapes.okWide_struct av h;exact⟨cs,U⟩
def Y5{d:DataW H}(h:DataW.Trod enc Tryz.prog W 0 (λ_=>true) true 24 v d p)(ag:Value.okWide Tryz.prog W .any a3 24 v):∃ g:dX,v=g.val/\tg (pg W) g:=by obtain⟨b',av,-⟩:=CG (P:=Tryz.prog) (t:=24) (l:=[(22,0)]) (by kernel_rfl);obtain⟨cs,rfl⟩:=Y4 av ag;obtain⟨ed,az⟩:=h;obtain⟨g,e,aA⟩:=Y3 az;refine⟨g,?_,aA⟩;have bn:cs.toList=[.slice g.a g.n g.c]:=e;cases cs;simp only at bn;subst bn;rfl
end
def Qj{H:Type}{enc:TypeId×Value->H}{P:Program}(ar:laidOutB P=true){W jm:World}(ae:yk W jm):∀ {ts:List TypeId} {vs:List Value} {ds:List (DataW H)} {ps:List MemPlace},(∀ t∈ts,P.readableRec t=true/\t<P.types.size) -> DataW.TrodAll enc P W 0 (λ_=>true) true ts vs ds ps->(∀ p∈ps,p.block<W.heap.size)->∀ eF:Nat->Bool,(∀ p∈ps,eF p.block=true)->DataW.TrodAll enc P jm 0 eF true ts vs ds ps
 |[],[],[],_,_,h,_,_,_=>h
 |t::ts,v::vs,d::ds,_,av,⟨p,q,U,aa,e⟩,aK,eF,ap=>by
  subst e;refine⟨p,q,?_,?_,rfl⟩
  ·refine Go.WideElems.Trod_stays ar (av t (.head _)).1 (av t (.head _)).2 U (λx ab=>?_) (λx ab=>ap x (eb.2 (.inl ab)));have bP:=aK x (eb.2 (.inl ab));cases x with
   |cell b o=>exact World.cell?_of_block (w:=W) (ae.c3 b bP)| map b=>exact ae.c3 b bP
  ·exact Qj ar ae (λt h=>av t (.tail _ h)) aa (λx ab=>aK x (eb.2 (.inr ab))) eF (λx ab=>ap x (eb.2 (.inr ab)))
def Y6:mapsRowed Tryz.prog=true:=by kernel_rfl
def Y7:Tryz.prog.stopsHeard=true:=by kernel_rfl
def Y8:Tryz.prog.mayEnter=true:=by kernel_rfl
section
variable{H:Type}{enc:TypeId×Value->H}
def Y9{d:DataW H}(h:DataW.Trod enc Tryz.prog W 0 (λ_=>true) true 9 v d p)(ag:Value.okWide Tryz.prog W .any a3 9 v):∃ s:ByteArray,v=.string s/\s.size<=9223372036854775807:=by
 have av:Tryz.prog.underlying 9=some .string:=by kernel_rfl
 obtain⟨n,rfl⟩:=Go.WideShapes.okWide_string av ag;obtain⟨ed,az⟩:=h;obtain⟨i,cv,-,hw⟩:=FA av az;have aw:[Value.string n]=[Value.string i]:=cv;simp only[uK,Value.string.injEq,and_true]at aw;subst aw;exact⟨n,rfl,by unfold maxLen at hw;exact hw⟩
end
structure n5 where
 d:a9
 bT:List Nat
structure cy where
 n:Nat
 aP:Nat
 au:Nat
structure p9 where
 ch:Nat
 pl:Nat
 fJ:Nat
 aP:Nat
 n:Nat
structure Y' where
 kn:Nat->Nat->cy
 op:List p9
 pW:Nat
structure da where
 ns:List n5
 s:ByteArray
 a3:Nat
def Qk:a9:=⟨0,0,0,0,0,⟨#[]⟩,0,0,none,0,0,[]⟩
def da.aH(P:da)(k:Nat):n5:=P.ns.getD k ⟨Qk,[]⟩
def lR:cy:=⟨0,0,0⟩
def ld:cy:=⟨0,0,2⟩
def lf(d:a9)(b:Nat):Bool:=([d.dJ,d.s1,d.s2,d.dQ].getD (b/64) 0).toNat.testBit (b%64)
def preB(s t:ByteArray)(aH:Nat):Bool:=decide (aH+t.size<=s.size)&&decide (s.extract aH (aH+t.size)=t)
structure F3(P:da)(a:n5):Prop where
 k:0<=a.d.k/\a.d.k<10
 bT:∀ x∈a.bT,x<P.ns.length
 many:a.d.k=4\/a.d.k=5->0<a.bT.length
 one:a.d.k=3\/6<=a.d.k->a.bT.length=1
 m7:a.d.k=6->0<=a.d.lo/\a.d.lo<=99/\(a.d.hi=-1\/(a.d.lo<=a.d.hi/\a.d.hi<=99))
 len:a.bT.length<=1024
structure z'(P:da):Prop where
 ns:∀ a∈P.ns,F3 P a
 a3:P.a3<=P.s.size
 size:P.s.size<=4096
structure wx(P:da)(pl:Nat)(c:cy):Prop where
 au:c.au<=3
 m:c.au=3->pl<=c.aP/\c.aP<=P.s.size/\c.n<=65537
 f:c.au≠3->c.n=0/\c.aP=0
def eH(c:cy):Prop:=c.au=2\/c.au=3
def da.Za{P:da}(h:z' P){k:Nat}(ae:k<P.ns.length):F3 P (P.aH k):=by
 have:P.aH k=P.ns[k]:=by simp[da.aH,dh,ae]
 rw[this];exact h.ns _ (dK ae)
def lg(kn:Nat->Nat->cy)(a3:Nat):List Nat->Nat->List (Nat×Nat)
 |[],_=>[]| k::L,a=>bif Nat.beq (kn k (a-a3)).au 3 then(bif Nat.beq (kn k (a-a3)).n 0 then lg kn a3 L (kn k (a-a3)).aP else(k,a)::lg kn a3 L (kn k (a-a3)).aP)else lg kn a3 L a
def n6(kn:Nat->Nat->cy)(a3:Nat):List Nat->Nat->Nat
 |[],a=>a| k::L,a=>bif Nat.beq (kn k (a-a3)).au 3 then n6 kn a3 L (kn k (a-a3)).aP else n6 kn a3 L a
def kR(kn:Nat->Nat->cy)(a3:Nat):List Nat->Nat->Nat
 |[],_=>0| k::L,a=>bif Nat.beq (kn k (a-a3)).au 3 then(kn k (a-a3)).n+kR kn a3 L (kn k (a-a3)).aP else kR kn a3 L a
def allM(kn:Nat->Nat->cy)(a3:Nat):List Nat->Nat->Prop
 |[],_=>True| k::L,a=>(kn k (a-a3)).au=3/\allM kn a3 L (kn k (a-a3)).aP
def nh(kn:Nat->Nat->cy)(a3:Nat):List Nat->Nat->List (Nat×Nat)
 |[],_=>[]| k::L,a=>bif Nat.beq (kn k (a-a3)).au 3 then(bif Nat.beq (kn k (a-a3)).n 0 then []else [(k,a)])else nh kn a3 L a
def uW(kn:Nat->Nat->cy)(a3:Nat):List Nat->Nat->Prop
 |[],_=>False| k::L,a=>(kn k (a-a3)).au=3\/((kn k (a-a3)).au=2/\uW kn a3 L a)
inductive kS(kn:Nat->Nat->cy)(a3:Nat)(k:Nat)(hi:Int):Nat->Nat->List (Nat×Nat)->Prop
 |stop{t a:Nat}(h:(t:Int)=hi):kS kn a3 k hi t a []| fail {t a:Nat} (h:(t:Int)≠hi) (aa:(kn k (a-a3)).au=2):kS kn a3 k hi t a []| more {t a:Nat} {l:List (Nat×Nat)} (ai:t<=1000000) (h:(t:Int)≠hi) (aa:(kn k (a-a3)).au=3) (r:kS kn a3 k hi (t+1) (kn k (a-a3)).aP l):kS kn a3 k hi t a ((bif Nat.beq (kn k (a-a3)).n 0 then []else [(k,a)])++l)
def kl(P:da)(kn:Nat->Nat->cy)(k a:Nat)(l:List (Nat×Nat)):Prop:=
 if(P.aH k).d.k=6 then kS kn P.a3 ((P.aH k).bT.getD 0 0) (P.aH k).d.hi 0 a l
 else if(P.aH k).d.k=5 then uW kn P.a3 (P.aH k).bT a/\l=nh kn P.a3 (P.aH k).bT a else allM kn P.a3 (P.aH k).bT a/\l=lg kn P.a3 (P.aH k).bT a
structure h4 where
 name:ByteArray
 lo:Nat
 hi:Nat
def th(P:da)(kn:Nat->Nat->cy)(k a:Nat):List h4:=bif decide ((P.aH k).d.k=9)then [⟨(P.aH k).d.t,a,(kn k (a-P.a3)).aP⟩]else []
inductive h5(P:da)(kn:Nat->Nat->cy):Nat->List (Nat×Nat)->List h4->Prop
 |nil:h5 P kn 0 [] []| zero {n k a a2 l} (af:(kn k (a-P.a3)).au=3) (h:(kn k (a-P.a3)).n=0) (r:h5 P kn n a2 l):h5 P kn (n+1) ((k,a)::a2) l| node {n k a parts a2 l} (af:(kn k (a-P.a3)).au=3) (h:(kn k (a-P.a3)).n≠0) (aG:kl P kn k a parts) (r:h5 P kn n (parts++a2) l):h5 P kn (n+1) ((k,a)::a2) (th P kn k a++l)
def h5.app{P:da}{kn:Nat->Nat->cy}{n:Nat}{a b:List (Nat×Nat)}{l c4:List h4}(h:h5 P kn n a l)(a':h5 P kn m b c4):h5 P kn (n+m) (a++b) (l++c4):=by
 induction h with
 |nil=>rw[dk];exact a'| @zero n k a a2 l af h r be=>rw[Nat.add_right_comm];exact .zero af h be| @node n k a parts a2 l af h aG r be=>rw[Nat.add_right_comm,gl];rw[gl]at be;exact .node af h aG be
def km(l:List h4)(n:Nat):Prop:=(n<=65536->l.length=n)/\(65537<=n->65537<=l.length)
def km.app{l c4:List h4}{n:Nat}(h:km l n)(a':km c4 m):km (l++c4) (n+m):=by unfold km at *;rw[cU];omega
def km.cut{l:List h4}{n:Nat}(h:km l n):km l (min n 65537):=by unfold km at *;omega
def wy(kn gq:Nat->Nat->cy):Prop:=∀ k p,eH (kn k p)->gq k p=kn k p
def JM{kn gq:Nat->Nat->cy}(h:wy kn gq)(a3:Nat):∀ (L:List Nat) (a:Nat),allM kn a3 L a->lg gq a3 L a=lg kn a3 L a/\n6 gq a3 L a=n6 kn a3 L a/\kR gq a3 L a=kR kn a3 L a/\allM gq a3 L a
 |[],a,_=>⟨rfl,rfl,rfl,trivial⟩
 |k::L,a,⟨U,aa⟩=>by
  have e:=h k (a-a3) (.inr U);obtain⟨i1,i2,i3,i4⟩:=JM h a3 L _ aa;have ai:Nat.beq (kn k (a-a3)).au 3=true:=by rw[U];rfl
  simp only[lg,n6,kR,allM,e,i1,i2,i3,ai,bh];exact⟨trivial,trivial,trivial,U,i4⟩
def Ql{kn gq:Nat->Nat->cy}(h:wy kn gq)(a3:Nat):∀ (L:List Nat) (a:Nat),uW kn a3 L a->nh gq a3 L a=nh kn a3 L a/\uW gq a3 L a
 |[],a,U=>U.elim| k::L,a,.inl U=>by have e:=h k (a-a3) (.inr U);simp only[nh,uW,e,U];exact⟨rfl,.inl trivial⟩
 |k::L,a,.inr ⟨U,aa⟩=>by have e:=h k (a-a3) (.inl U);obtain⟨i1,i2⟩:=Ql h a3 L a aa;simp only[nh,uW,e,U,i1];exact⟨trivial,.inr ⟨trivial,i2⟩⟩
def kS.le{kn gq:Nat->Nat->cy}(h:wy kn gq){k:Nat}{t a:Nat}{l:List (Nat×Nat)}(hw:kS kn a3 k hi t a l):kS gq a3 k hi t a l:=by
 induction hw with
 |stop U=>exact .stop U| fail U aa=>exact .fail U (by rw[h _ _ (.inl aa)];exact aa)| @more t a l ai U aa r be=>have e:=h k (a-a3) (.inr aa);have:=kS.more (kn:=gq) (a3:=a3) (k:=k) (hi:=hi) (t:=t) (a:=a) (l:=l) ai U (by rw[e];exact aa) (by rw[e];exact be);rwa [e]at this
def kl.le{P:da}{kn gq:Nat->Nat->cy}(h:wy kn gq){k a:Nat}{l:List (Nat×Nat)}(aG:kl P kn k a l):kl P gq k a l:=by
 unfold kl at aG |-;by_cases bO:(P.aH k).d.k=6
 ·rw[cK bO]at aG |-;exact aG.le h
 ·rw[cA bO]at aG |-;by_cases bC:(P.aH k).d.k=5
  ·rw[cK bC]at aG |-;obtain⟨i1,i2⟩:=Ql h P.a3 _ _ aG.1;exact⟨i2,by rw[i1];exact aG.2⟩
  ·rw[cA bC]at aG |-;obtain⟨i1,i2,i3,i4⟩:=JM h P.a3 _ _ aG.1;exact⟨i4,by rw[i1];exact aG.2⟩
def h5.le{P:da}{kn gq:Nat->Nat->cy}(h:wy kn gq){n:Nat}{L:List (Nat×Nat)}{l:List h4}(aA:h5 P kn n L l):h5 P gq n L l:=by
 induction aA with
 |nil=>exact .nil| @zero n k a a2 l af ao r be=>have e:=h k (a-P.a3) (.inr af);exact .zero (by rw[e];exact af) (by rw[e];exact ao) be
 | @node n k a parts a2 l af ao aG r be=>
  have e:=h k (a-P.a3) (.inr af);have aL:th P kn k a=th P gq k a:=by unfold th;rw[e]
  rw[aL];exact .node (by rw[e];exact af) (by rw[e];exact ao) (aG.le h) be
inductive lh:Nat->Nat->List h4->Prop
 |nil{a b}(h:a<=b):lh a b []| app {a b c l c4} (h:lh a b l) (a':lh b c c4):lh a c (l++c4)| cap {a b l bU} (h:lh a b l):lh a b (⟨bU,a,b⟩::l)
def lh.le{a b:Nat}{l:List h4}(h:lh a b l):a<=b:=by
 induction h with
 |nil h=>exact h| app _ _ U aa=>exact jx U aa| cap _ h=>exact h
structure JN(P:da)(kn:Nat->Nat->cy)(f:p9):Prop where
 w:(kn f.ch (f.pl-P.a3)).au=1
 many:(P.aH f.ch).d.k=4\/(P.aH f.ch).d.k=6->∀ L,L=(if(P.aH f.ch).d.k=4 then(P.aH f.ch).bT.take f.fJ else List.replicate f.fJ ((P.aH f.ch).bT.getD 0 0)) -> allM kn P.a3 L f.pl/\f.aP=n6 kn P.a3 L f.pl/\f.n=min (kR kn P.a3 L f.pl) 65537
 sM:(P.aH f.ch).d.k=5->∀ i,i<f.fJ->(kn ((P.aH f.ch).bT.getD i 0) (f.pl-P.a3)).au=2
def wz(P:da)(kn:Nat->Nat->cy):Prop:=∀ k p,(kn k p).au=3->∃ n l,h5 P kn n [(k,P.a3+p)] l/\km l (kn k p).n/\lh (P.a3+p) (kn k p).aP l
def JN.le{P:da}{kn gq:Nat->Nat->cy}(h:wy kn gq){f:p9}(ap:JN P kn f)(hw:(gq f.ch (f.pl-P.a3)).au=1):JN P gq f:=by
 refine⟨hw,λae L c7=>?_,λae i hi=>?_⟩
 ·obtain⟨U,aa,af⟩:=ap.many ae L c7;obtain⟨i1,i2,i3,i4⟩:=JM h P.a3 _ _ U;exact⟨i4,by rw[i2];exact aa,by rw[i3];exact af⟩
 ·have:=ap.sM ae i hi;rw[h _ _ (.inl this)];exact this
def Qm{P:da}{kn:Nat->Nat->cy}(ae:∀ k p,wx P (P.a3+p) (kn k p))(aA:wz P kn):∀ (L:List Nat) (a:Nat),P.a3<=a->allM kn P.a3 L a->∃ n l,h5 P kn n (lg kn P.a3 L a) l/\km l (kR kn P.a3 L a)/\lh a (n6 kn P.a3 L a) l
 |[],a,_,_=>⟨0,[],.nil,⟨λ_=>rfl,λh=>by simp[kR]at h⟩,.nil (cC _)⟩
 |k::L,a,aC,⟨U,aa⟩=>by
  have aL:=ae k (a-P.a3);have lj:=(aL.m U).1;obtain⟨n,l,i1,i2,i3⟩:=Qm ae aA L _ (by omega) aa;obtain⟨m,c4,h6,hd,iS⟩:=aA k (a-P.a3) U;rw[wa aC]at h6 iS;simp only[lg,kR,n6,U];rw[show Nat.beq 3 3=true from rfl,bh,bh,bh];cases ao:Nat.beq (kn k (a-P.a3)).n 0 with
  |true=>rw[bh,cf ao,dk];exact⟨n,l,i1,i2,.app (.nil (by rw[wa aC]at lj;exact lj)) i3⟩| false=>rw[ba];exact⟨m+n,c4++l,h6.app i1,hd.app i2,.app iS i3⟩
def Qn(bU:ByteArray):∀ (ds:List bE) (i:Nat),c9 bU ds i=bif decide (c9 bU ds 0<0)then -1 else c9 bU ds 0+i
 |[],i=>rfl
 |d::ds,i=>by
  unfold c9;cases h:decide (d.name=bU)with
  |true=>
   have:decide ((((0:Nat):Int))<0)=false:=by decide
   simp[this]
  |false=>
   rw[ba,ba,Qn bU ds (i+1),Qn bU ds (0+1)];have al:c9 bU ds 0<0\/0<=c9 bU ds 0:=by omega
   rcases al with al | al;·rw[iQ al];rfl
   ·have e:decide (c9 bU ds 0<0)=false:=ea (by omega);rw[e,ba,ba];have aB:decide (c9 bU ds 0+((0+1:Nat):Int)<0)=false:=ea (by omega);rw[aB,ba];omega
def Qo(bU:ByteArray)(ap cd:List bE):c9 bU (ap++cd) 0=bif decide (c9 bU ap 0<0)then c9 bU cd ap.length else c9 bU ap 0:=by
 have key:∀ (ap:List bE) (i:Nat),c9 bU (ap++cd) i=bif decide (c9 bU ap i<0)then c9 bU cd (i+ap.length)else c9 bU ap i:=by
  intro ap
  induction ap with
  |nil=>intro i;simp[c9]
  |cons d ap be=>
   intro i;rw[sY,c9,c9];cases decide (d.name=bU)with
   |true=>have:decide ((i:Int)<0)=false:=ea (by omega);rw[bh,bh,this,ba]| false=>rw[ba,ba,be (i+1),e1];rw[show i+1+ap.length=i+(ap.length+1)from by omega]
 have:=key ap 0;rwa [dk]at this
structure Aa(ap:List bE)(aM:List (ByteArray×Int)):Prop where
 look:∀ bU,(dI bU aM).isSome=decide (0<=c9 bU ap 0)
def Qp(bU:ByteArray)(p:ByteArray×Int):∀ aM:List (ByteArray×Int),(dI bU (aM++[p])).isSome=((dI bU aM).isSome||decide (bU=p.1))
 |[]=>by
  show(bif decide (bU=p.1)then some p.2 else none:Option Int).isSome=_;cases decide (bU=p.1)<;>rfl
 |q::aM=>by
  rw[sY,dI,dI];cases decide (bU=q.1)with
  |true=>rfl| false=>rw[ba,ba,Qp bU p aM]
def Aa.snoc{ap:List bE}{aM:List (ByteArray×Int)}(h:Aa ap aM)(d:bE)(v:Int):Aa (ap++[d]) (aM++[(d.name,v)]):=by
 refine⟨λbU=>?_⟩;rw[Qp,h.look,Qo];by_cases al:c9 bU ap 0<0
 ·rw[iQ al,bh,ea (by omega:¬ 0<=c9 bU ap 0),ud];unfold c9;have:decide (d.name=bU)=decide (bU=d.name):=decide_eq_decide.2 ⟨Eq.symm,Eq.symm⟩;rw[this];cases decide (bU=d.name)with
  |true=>simp| false=>rw[ba];rfl
 ·rw[ea al,ba,iQ (by omega:0<=c9 bU ap 0),FC]
def ti(ds:List bE)(i:Nat):Bool:=match ds[i]? with
 |some d=>decide (c9 d.name ds 0=i)| none=>true
def Zb(d:bE)(cd:List bE)(i:Nat):c9 d.name (d::cd) i=i:=by rw[c9,iQ rfl];rfl
def Zc(cd:List bE):∀ (ap:List bE) (aM:List (ByteArray×Int)),Aa ap aM->(∀ i,i<ap.length->ti (ap++cd) i=true) ->
  match n3 aM ap.length cd with
  |none=>∃ i,i<(ap++cd).length/\ti (ap++cd) i=false/\∀ k,k<i->ti (ap++cd) k=true| some r=>Aa (ap++cd) r/\∀ i,i<(ap++cd).length->ti (ap++cd) i=true:=by
 induction cd with
 |nil=>intro ap aM h az;rw[dF]at *;exact⟨h,az⟩
 |cons d cd be=>
  intro ap aM h az;have jl:(ap++d::cd)[ap.length]?=some d:=by simp
  have mO:ti (ap++d::cd) ap.length=!(dI d.name aM).isSome:=by
   unfold ti;rw[jl,h.look];simp only;rw[Qo];by_cases al:c9 d.name ap 0<0;·rw[iQ al,bh,Zb];simp;omega
   ·rw[ea al,ba];have aK:c9 d.name ap 0<ap.length:=by
     have:∀ (ap:List bE) (i:Nat),0<=c9 d.name ap i->c9 d.name ap i<i+ap.length:=by
      intro ap
      induction ap with
      |nil=>intro i h;simp[c9]at h
      |cons e ap Zd=>
       intro i h;unfold c9 at h |-;cases aL:decide (e.name=d.name)with
       |true=>simp;omega| false=>rw[aL,ba]at h;rw[ba];have:=Zd (i+1) h;simp;omega
     have:=this ap 0 (by omega);omega
    have aw:decide (c9 d.name ap 0=(ap.length:Int))=false:=ea (by omega);have aB:decide (0<=c9 d.name ap 0)=true:=iQ (by omega);rw[aw,aB];rfl
  rw[n3];cases ar:(dI d.name aM).isSome with
  |true=>rw[ar]at mO;exact⟨ap.length,by simp,mO,az⟩
  |false=>
   rw[ar]at mO;have:=be (ap++[d]) (aM++[(d.name,(ap.length:Int))]) (h.snoc d _) (λi hi=>by
    rw[gl];simp at hi;rcases Nat.lt_or_eq_of_le (Nat.lt_succ_iff.1 (by omega:i<ap.length+1))with U | U;·exact az i U
    ·rw[U];exact mO)
   rw[cU,gl]at this;exact this
def Ze:Aa [] []:=⟨λbU=>by simp[dI,c9]⟩
def CH(ds:List bE)(n:a9):Bool:=!decide (n.k=3)||decide (0<=c9 n.t ds 0)
def Qq(p:a9->Bool):∀ (ds:List bE) (i:Nat),((r0 i ds).all λx=>p x.2)=ds.all λd=>d.t.ns.all p
 |[],i=>rfl| d::ds,i=>by rw[r0,FB,List.all_cons,Qq p ds (i+1),List.all_map];rfl
def JO(aW:List Int)(g:dX):Int:=
 bif decide ((g.n:Int)=0)then 4 else bif !te g.ds then 4 else bif td aW g then 40 else
 bif !(List.range g.ds.length).all (ti g.ds)then 6 else bif g.ds.all λd=>d.t.ns.all (CH g.ds)then 0 else 41
def Zf(aW:List Int)(g:dX):JO aW g=g1 aW g:=by
 unfold JO g1;have h:=Zc g.ds [] [] Ze (λi hi=>by simp at hi);simp only[jh,mT]at h;cases ah:n3 [] 0 g.ds with
 |none=>
  rw[ah]at h;obtain⟨i,U,aa,_⟩:=h;have:(List.range g.ds.length).all (ti g.ds)=false:=by rw[wb];intro gS;rw[gi]at gS;have:=gS i (l3.2 U);rw[aa]at this;cases this
  rw[this];rfl
 |some aM=>
  rw[ah]at h;obtain⟨U,aa⟩:=h;have af:(List.range g.ds.length).all (ti g.ds)=true:=by rw[gi];intro i hi;exact aa i (l3.1 hi)
  rw[af];have aR:(g.ds.all λd=>d.t.ns.all (CH g.ds))=uR aM g.ds:=by unfold uR;rw[Qq];congr 1;funext d;congr 1;funext n;unfold wo CH;rw[U.look]
  rw[aR];rfl
def JP:eh 0:=⟨by decide,by decide⟩
def i0:mY 0:=⟨by decide,by decide⟩
def Zg(k:Int)(s:ByteArray):a9:=⟨k,0,0,0,0,s,0,0,none,0,0,[]⟩
def F4(d:a9):Bool:=decide (d.t=⟨#[]⟩)&&(decide (d.lo=0)&&decide (d.hi=0))
def Zh(d:a9)(n:Int):Bool:=
 bif decide (d.k=0)then F4 d&&decide (n=0)else
 bif decide (d.k=1)then F4 d&&decide (n=0)else
 bif decide (d.k=2)then decide (d.lo=0)&&(decide (d.hi=0)&&(decide (n=0)&&(decide ((1:Int)<=d.t.size)&&decide ((d.t.size:Int)<=255))))else
 bif decide (d.k=3)then decide (d.lo=0)&&(decide (d.hi=0)&&(decide (n=0)&&kM d.t))else
 bif decide (d.k=4)||decide (d.k=5)then F4 d&&decide (2<=n)else
 bif decide (d.k=6)then decide (d.t=⟨#[]⟩)&&(decide (n=1)&&(decide (0<=d.lo)&&(decide (d.lo<=99)&&(decide (d.hi=-1)||(decide (d.lo<=d.hi)&&decide (d.hi<=99))))))else
 bif decide (d.k=7)||decide (d.k=8)then F4 d&&decide (n=1)else
 bif decide (d.k=9)then decide (d.lo=0)&&(decide (d.hi=0)&&(decide (n=1)&&kM d.t))else false
def Qr{b1:Int}:∀ {s:List Bool} {i j:Nat},j<s.length->(s.getD j false == decide (((i+j:Nat):Int)=b1))=true->o2 b1 i s=false
 |b::s,i,0,_,h=>by unfold o2;rw[show(b == decide ((i:Int)=b1))=true by simpa using h];rfl
 |b::s,i,j+1,an,h=>by
  unfold o2;cases b == decide ((i:Int)=b1)with
  |true=>rfl| false=>simp only[ba];refine Qr (j:=j) (by simpa using an) ?_;rw[show i+1+j=i+(j+1) by omega];simpa using h
def Qs{b1:Int}:∀ {s:List Bool} {i:Nat},(∀ j,j<s.length->(s.getD j false == decide (((i+j:Nat):Int)=b1))=false)->o2 b1 i s=true
 |[],i,h=>rfl| b::s,i,h=>by unfold o2;have ao:=h 0 (by simp);rw[show(b == decide ((i:Int)=b1))=false by simpa using ao];simp only[ba];refine Qs λj an=>?_;have:=h (j+1) (by simpa using an);rw[show i+1+j=i+(j+1) by omega];simpa using this
def bl.ch{o:Oper}{K:fo}(h:bl X o F C I M (λF C I M=>(M.map (·.num)).Nodup->(∀ x∈M,I x.num=none)->K F C I M)):bl X o F C I M K:=
 ⟨λa w Q a1=>qm (λbS w'=>λ⟨dE,C',I',M',⟨β,al⟩,ae⟩=>⟨dE,C',I',M',⟨β,al⟩,ae al.holds.ch al.holds.d⟩) (h.1 a w Q a1)⟩
def Qt{xs jo:List Value}(ep:os.ok size xs){g c:Nat}{aJ:List Value}(aN:jo.length=size)(U:aJ.length=c*size)(aa:os.n+1<=c)(af:c<=maxLen)(aR:aJ.take ((os.n+1)*size)=xs++jo) :
  bk.ok ⟨some g,os.n+1,c,aJ⟩ size (xs++jo):=by
 have ar:=ep.len;refine⟨?_,(λh=>by cases h),λbG ml=>⟨U,aa,af,aR⟩⟩;rw[cU,ar,aN];simp only;rw[jG,oX]
abbrev F5:=dG×Int×ByteArray
def F5.ch(x:F5):a9:=Zg x.2.1 x.2.2
structure F5.ok(I:aS)(x:F5):Prop where
 t:x.1.ok I
 ns:x.1.ns=[x.ch]
 b1:x.1.b1=0
 fits:Zh x.ch 0=true
def a9.qZ(d:a9):a9:=⟨d.k,d.dJ,d.s1,d.s2,d.dQ,d.t,d.lo,d.hi,none,0,0,d.aX⟩
structure aZ where
 z:Bool
 s:Bool
 f:Bool
 deriving DecidableEq
def aZ.cells(x:aZ):List Value:=[.bool x.z,.bool x.s,.bool x.f]
def aZ.val(x:aZ):Value:=.agg #[.bool x.z,.bool x.s,.bool x.f]
def aZ.de(x:aZ):x.cells.length=3:=rfl
def aZ.hQ(x:aZ):Bool:=x.z||x.s
def Zi(x y:aZ)(p q:Operand)(w:World):(do eqGuard .neq 46 p q x.val y.val;binOp .neq 46 x.val y.val:Sem Value).run Tryz.prog w=.ok (.bool (!decide (x=y))) w:=by
 obtain⟨a,b,c⟩:=x;obtain⟨d,e,f⟩:=y;cases a<;>cases b<;>cases c<;>cases d<;>cases e<;>cases f<;>kernel_rfl
def fh.Qu{p q:aZ}{V:Value->Prop}(h:V (.bool (!decide (p=q)))):fh Tryz.prog .neq 46 x y (.val (.agg #[.bool p.z,.bool p.s,.bool p.f])) (.val (.agg #[.bool q.z,.bool q.s,.bool q.f])) V other:=
 .mk _ _ _ rfl rfl (λw=>Zi p q x y w) h
def JQ{s:Bool}{x:aZ}(U:z=x.z)(aa:s=x.s)(af:f=x.f):Value.agg #[.bool z,.bool s,.bool f]=x.val:=by subst U aa af;rfl
def Qv{s:Bool}{x:aZ}(U:z=x.z)(aa:s=x.s)(af:f=x.f):[Value.bool z,Value.bool s,Value.bool f]=x.cells:=by subst U aa af;rfl
def Zj{a b:Bool}(h:a=b):sL (.val (.bool a)) (.val (.bool b)):=by subst h;exact .refl
def Ab{a b:Bool}(h:a=b):sL (.lit a) (.val (.bool b)):=by subst h;exact .lit
def perm_nil:M.Perm (M++[]):=by simp
def fh.Zk{E:Env}(aE:cE P E){t e:Nat}{aD:dz}(av:E t=some dc)(dL:dc.bz=.array 4 e)(he:E e=some aD){k:IntKind}(kf:aD.bz=.int k)(aA:P.eqGuardType P.depth t=false){en cc dd df kL bI cx dx:Int}{V:Value->Prop}
  (h:V (.bool (!(en == kL&&(cc == bI&&(dd == cx&&df == dx)))))):fh P .neq t x y (.val (.agg #[.int k en,.int k cc,.int k dd,.int k df])) (.val (.agg #[.int k kL,.int k bI,.int k cx,.int k dx])) V other:=by
 obtain⟨d,eM,e4⟩:=(aE _ _ av).eJ;obtain⟨nU,IV,IW⟩:=(aE _ _ he).eJ;obtain⟨inf,z,hi,fa,_⟩:=(aE _ _ he).inf;have U:d=.array 4 e:=by rw[dL]at e4;cases d<;>simp_all[eD]
 have aa:nU=.int k:=by rw[kf]at IW;cases nU<;>simp_all[eD]
 subst U;subst aa;have gQ:inf.size=1:=by rw[fa];exact(aE _ _ he).Ez (by rw[kf];rfl)
 refine .mk _ _ _ rfl rfl (λw=>?_) h;simp only[bZ,run_eqGuard_agg (hm:=aA),bK,binOp,Ow eM IV hi gQ,cG]
def F6(x:aZ):Spec Tryz.prog 212 [x.val] I M λv I' M'=>v=.bool x.hQ/\I'=I/\M'=M:=by
 obtain⟨a,b,c⟩:=x;refine bX [] aV Tryz.func212 rfl rfl rfl ?_;intro B ao;refine cB.mk (λh=>?_) (λh=>?_)
 ·exact⟨_,_,.refl,by rw[show a=false from h];rfl,rfl,rfl⟩
 ·exact⟨_,_,.refl,by rw[show a=true from h];rfl,rfl,rfl⟩
structure kT(I:aS)(M:List ay)(a:Option Addr)(n:Nat)(ks:List aZ):Prop where
 n:ks.length=n
 rd:∀ j (h:j<ks.length),∃ ad,a=some ad/\ca I M (ad.add (j*3)) 3 ks[j].cells
def jZ(au:aZ×Bool)(k:aZ):aZ×Bool:=(⟨au.1.z&&k.z,au.1.s||k.s,au.1.f||(au.2&&k.f)⟩,au.2&&k.hQ)
def n7(ks:List aZ):aZ×Bool:=ks.foldl jZ (⟨true,false,false⟩,true)
def Ac(ks:List aZ):aZ:=⟨(n7 ks).1.z,(n7 ks).1.s&&(n7 ks).2,(n7 ks).1.f⟩
def lk(f k:aZ):aZ:=⟨f.z||(f.f&&k.z),f.s||(f.f&&k.s),f.f&&k.f⟩
def CI(ks:List aZ):aZ:=ks.foldl lk ⟨false,false,true⟩
def bY:aZ:=⟨false,false,false⟩
def lS(d:a9)(k:aZ):aZ:=bif decide (d.hi=0)then⟨true,false,false⟩else⟨k.z||(decide (d.lo=0)&&k.f),k.s,decide (0<d.lo)&&k.f⟩
def dN(d:a9)(ks:List aZ):aZ:=
 bif decide (d.k=0)then⟨true,false,false⟩else
 bif decide (d.k=1)then⟨false,!d.lK,true⟩else
 bif decide (d.k=2)then⟨false,true,true⟩else
 bif decide (d.k=3)then ks.headD bY else
 bif decide (d.k=4)then Ac ks else
 bif decide (d.k=5)then CI ks else
 bif decide (d.k=6)then lS d (ks.headD bY)else
 bif decide (d.k=7)then⟨(ks.headD bY).hQ,false,(ks.headD bY).f⟩else
 bif decide (d.k=8)then⟨(ks.headD bY).f,false,(ks.headD bY).hQ⟩else ks.headD bY
section
variable{I:aS}{M:List ay}{d:a9}{a:Option Addr}{n c:Nat}{ks:List aZ}
def kT.head(ae:kT I M a n ks)(ao:0<n):∃ ad,a=some ad/\ca I M (ad.add (0*3)) 3 (ks.headD bY).cells:=by
 have U:0<ks.length:=by rw[ae.n];exact ao
 obtain⟨ad,aa,af⟩:=ae.rd 0 U;refine⟨ad,aa,?_⟩;cases ks with
 |nil=>simp at U| cons k ks=>exact af
def Zl:Spec Tryz.prog 149 [d.val,.slice a n c] I M λv I' M'=>v=aZ.val ⟨true,false,false⟩/\I'=I/\M'=M:=by refine bX [] aV Tryz.func149 rfl rfl rfl ?_;intro B ao;exact⟨_,_,.refl,rfl,rfl,rfl⟩
def Zm:Spec Tryz.prog 151 [d.val,.slice a n c] I M λv I' M'=>v=aZ.val ⟨false,true,true⟩/\I'=I/\M'=M:=by refine bX [] aV Tryz.func151 rfl rfl rfl ?_;intro B ao;exact⟨_,_,.refl,rfl,rfl,rfl⟩
def Qw(ae:kT I M a n ks)(ao:0<n):Spec Tryz.prog 152 [d.val,.slice a n c] I M λv I' M'=>v=(ks.headD bY).val/\I'=I/\M'=M:=by refine bX [] aV Tryz.func152 rfl rfl rfl ?_;intro B hp;obtain⟨ad,b7,bs⟩:=ae.head ao;refine bc.mk ad 0 b7 rfl ao ?_;refine aF.mk _ bs ?_;exact⟨_,_,.refl,rfl,rfl,rfl⟩
def Zn(ae:kT I M a n ks)(ao:0<n):Spec Tryz.prog 156 [d.val,.slice a n c] I M λv I' M'=>v=aZ.val ⟨(ks.headD bY).hQ,false,(ks.headD bY).f⟩/\I'=I/\M'=M:=by refine bX [] aV Tryz.func156 rfl rfl rfl ?_;intro B hp;obtain⟨ad,b7,bs⟩:=ae.head ao;refine cW.draw aV rfl rfl rfl ?_;refine bc.mk ad 0 b7 rfl ao ?_;refine aF.mk _ bs ?_;refine bc.mk ad 0 b7 rfl ao ?_;refine aF.mk _ (bs.part (k:=2) (m:=1) (by decide)) ?_;refine fi.lC M [] _ perm_nil (F6 (ks.headD bY)) (λv I' M' h x ab=>by rw[h.2.2];exact ab) ?_;rintro v I' M' -⟨rfl,rfl,rfl⟩;rw[dF];exact⟨_,_,.refl,rfl,rfl,rfl⟩
def Zo(ae:kT I M a n ks)(ao:0<n):Spec Tryz.prog 157 [d.val,.slice a n c] I M λv I' M'=>v=aZ.val ⟨(ks.headD bY).f,false,(ks.headD bY).hQ⟩/\I'=I/\M'=M:=by refine bX [] aV Tryz.func157 rfl rfl rfl ?_;intro B hp;obtain⟨ad,b7,bs⟩:=ae.head ao;refine cW.draw aV rfl rfl rfl ?_;refine bc.mk ad 0 b7 rfl ao ?_;refine aF.mk _ (bs.part (k:=2) (m:=1) (by decide)) ?_;refine bc.mk ad 0 b7 rfl ao ?_;refine aF.mk _ bs ?_;refine fi.lC M [] _ perm_nil (F6 (ks.headD bY)) (λv I' M' h x ab=>by rw[h.2.2];exact ab) ?_;rintro v I' M' -⟨rfl,rfl,rfl⟩;rw[dF];exact⟨_,_,.refl,rfl,rfl,rfl⟩
def Zp:Spec Tryz.prog 150 [d.val,.slice a n c] I M λv I' M'=>v=aZ.val ⟨false,!d.lK,true⟩/\I'=I/\M'=M:=by refine bX [] aV Tryz.func150 rfl rfl rfl ?_;intro B ao;refine fh.Zk aV (e:=47) rfl rfl rfl rfl (by kernel_rfl) ?_;exact⟨_,_,.refl,rfl,rfl,rfl⟩
def Zq(ae:kT I M a n ks)(ao:0<n):Spec Tryz.prog 155 [d.val,.slice a n c] I M λv I' M'=>v=(lS d (ks.headD bY)).val/\I'=I/\M'=M:=by
 refine bX [] aV Tryz.func155 rfl rfl rfl ?_;intro B hp;obtain⟨ad,b7,bs⟩:=ae.head ao;generalize ks.headD bY=k at bs;obtain⟨JR,JS,CJ⟩:=k;refine a0.mk (λh=>?_) (λh=>?_)
 ·refine⟨_,_,.refl,JQ ?_ ?_ ?_,rfl,rfl⟩<;>simp[lS,h]
 refine bc.mk ad 0 b7 rfl ao ?_;refine aF.mk _ bs ?_
 repeat' refine cB.mk (λh=>?_) (λh=>?_)
 all_goals refine⟨_,_,.refl,JQ ?_ ?_ ?_,rfl,rfl⟩
 all_goals first | (simp_all[lS];done) | (simp_all[lS];intros;omega)
def Zr(ae:kT I M a n ks)(ax:n<=140737488355328):Spec Tryz.prog 154 [d.val,.slice a n c] I M λv I' M'=>v=(CI ks).val/\I'=I/\M'=M:=by
 refine bX [] aV Tryz.func154 rfl rfl rfl ?_;intro B hp;have dR:=ae.n;refine dB.inv (ι:=Nat×aZ) (λx=>{ bj:=[(4,.ref 4 0),(5,.ref 5 0),(9,.val (.slice a n c)),(10,.val (.int .i64 n)),(11,.val (.int .i64 x.1))],cl:=[(4,bY.cells),(5,x.2.cells)],c5:=I,dv:=M }) (λx=>x.1<=n/\x.2=(ks.take x.1).foldl lk ⟨false,false,true⟩) (λx=>n-x.1) ?_ ?_
 ·exact⟨(0,⟨false,false,true⟩),⟨bq _,rfl⟩,.refl,g',.cons rfl (.cons rfl .nil)⟩
 rintro⟨i,f⟩⟨hi,az⟩;simp only at hi az;refine a0.mk (λh=>?_) (λh=>?_)
 rotate_left
 ·have c1:n<=i:=by have:=dt h;omega
  refine⟨_,_,.refl,?_,rfl,rfl⟩;rw[hn (by omega)]at az;rw[CI,<-az];rfl
 have aK:i<n:=by have:=du h;omega
 obtain⟨ad,b7,bs⟩:=ae.rd i (by omega);have dw:∀ g:aZ,g=lk f (ks[i]'(by omega))->g=(ks.take (i+1)).foldl lk ⟨false,false,true⟩:=λg aA=>by rw[hU (by omega),Je,<-az,aA];rfl
 generalize ks[i]'(by omega)=k at bs dw;obtain⟨JR,JS,CJ⟩:=k;obtain⟨z,s,JT⟩:=f;refine bc.mk ad i b7 rfl aK ?_;refine aF.mk _ bs ?_
 repeat' refine cB.mk (λh=>?_) (λh=>?_)
 all_goals refine a5.mk _ (cm (i:=i) (by omega)) ?_
 all_goals refine⟨(i+1,_),⟨⟨by simp only;omega,dw _ rfl⟩,by simp only;omega⟩,.refl,g',.cons rfl (.cons ?_ .nil)⟩
 all_goals clear dw az bs
 all_goals (refine congrArg some (Qv ?_ ?_ ?_)<;>simp_all[lk])
def Zs(l:List aZ)(k:aZ):n7 (l++[k])=jZ (n7 l) k:=by simp[n7]
def Zt(ae:kT I M a n ks)(ax:n<=140737488355328):Spec Tryz.prog 153 [d.val,.slice a n c] I M λv I' M'=>v=(Ac ks).val/\I'=I/\M'=M:=by
 refine bX [] aV Tryz.func153 rfl rfl rfl ?_;intro B hp;have dR:=ae.n;refine dB.inv (ι:=Nat×aZ×Bool) (λx=>{ bj:=[(4,.ref 4 0),(5,.ref 5 0),(6,.val (.bool x.2.2)),(10,.val (.slice a n c)),(11,.val (.int .i64 n)),(12,.val (.int .i64 x.1))],cl:=[(4,bY.cells),(5,x.2.1.cells)],c5:=I,dv:=M }) (λx=>x.1<=n/\x.2=n7 (ks.take x.1)) (λx=>n-x.1) ?_ ?_
 ·exact⟨(0,⟨true,false,false⟩,true),⟨bq _,rfl⟩,.refl,.cons .refl (.cons .refl (.cons .lit (fZ))),.cons rfl (.cons rfl .nil)⟩
 rintro⟨i,f,Qx⟩⟨hi,az⟩;simp only at hi az;refine a0.mk (λh=>?_) (λh=>?_)
 rotate_left
 ·have c1:n<=i:=by have:=dt h;omega
  rw[hn (by omega)]at az;obtain⟨z,s,JT⟩:=f;have aw:(n7 ks).1=⟨z,s,JT⟩:=by rw[<-az]
  have aB:(n7 ks).2=Qx:=by rw[<-az]
  refine cB.mk (λaa=>?_) (λaa=>?_)
  all_goals refine⟨_,_,.refl,JQ ?_ ?_ ?_,rfl,rfl⟩
  all_goals simp_all[Ac]
 have aK:i<n:=by have:=du h;omega
 obtain⟨ad,b7,bs⟩:=ae.rd i (by omega);have dw:∀ g:aZ×Bool,g=jZ (f,Qx) (ks[i]'(by omega))->g=n7 (ks.take (i+1)):=λg aA=>by rw[hU (by omega),Zs,<-az,aA]
 generalize ks[i]'(by omega)=k at bs dw;obtain⟨JR,JS,CJ⟩:=k;obtain⟨z,s,JT⟩:=f;refine bc.mk ad i b7 rfl aK ?_;refine aF.mk _ bs ?_
 repeat' first
  |refine cB.mk (λh=>?_) (λh=>?_)|(refine bb.mk M [] _ perm_nil (F6 ⟨JR,JS,CJ⟩) ?_;rintro v I' M' -⟨rfl,rfl,rfl⟩;rw[dF])
 all_goals refine a5.mk _ (cm (i:=i) (by omega)) ?_
 all_goals refine⟨(i+1,_),⟨⟨by simp only;omega,dw _ rfl⟩,by simp only;omega⟩,.refl,.cons .refl (.cons .refl (.cons ?_ (fZ))),.cons rfl (.cons ?_ .nil)⟩
 all_goals clear dw az bs
 all_goals first
  |(refine congrArg some (Qv ?_ ?_ ?_)<;>simp_all[jZ])|(refine Zj ?_;simp_all[jZ])|(refine Ab ?_;simp_all[jZ])
end
def ca.mono{a:Addr}{n:Nat}(h:ca I M a n vs)(bF:∀ b o,I b=some o->I' b=some o):ca I' M a n vs:=by obtain⟨U,cs,T,aj,aa,af⟩:=h;exact⟨U,cs,T,aj,aa.imp (bF _ _) id,af⟩
def ca.sub{I:aS}{M M':List ay}{a:Addr}{n:Nat}{vs:List Value}(h:ca I M a n vs)(a4:∀ x∈M,x∈M'):ca I M' a n vs:=by obtain⟨U,cs,T,aj,aa,af⟩:=h;refine⟨U,cs,T,aj,aa.imp id ?_,af⟩;rintro⟨x,ab,aw,aB⟩;exact⟨x,a4 x ab,aw,aB⟩
end Go.V
