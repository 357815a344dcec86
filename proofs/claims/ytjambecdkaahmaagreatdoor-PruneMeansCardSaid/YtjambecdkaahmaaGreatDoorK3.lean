/- Part 3 of what the proofs of this seat share: the executor, data in memory, walks.
-/
import Derived.Test.YtjambecdkaahmaaGreatDoorK2
import Derived.WideMake
import Derived.ChangeSame
import Derived.ChangeArms
import Derived.OpenShut
import Derived.Deep.DeepHandedRow
import Derived.Lib.LaidTab
import Derived.Test.YtjambecdkaahmaaGreatDoorRows
import Derived.Test.YtjambecdkaahmaaGreatDoorCards
import Derived.Test.YtjambecdkaahmaaGreatDoorTie
import Derived.WalkKit
import Derived.ProofKit
set_option linter.all false
set_option maxHeartbeats 8000000
set_option maxRecDepth 100000
namespace Go.V
open Go Go.Proofs
def bw:=@Nat.zero_le
def de:=@decide_eq_false
def eN:=@decide_eq_true
def lS:=@List.flatMap_append
def kV:=@Option.some.inj
def lT:=@List.length_set
def jl:=@List.map_map
def y1:=@List.replicate_succ
def CO:=@MapKept.run_getObj_map
def CP:=@List.length_take_of_le
def FL:=@List.sublist_append_left
def CQ:=@Int.ofNat_eq_natCast
def CR:=@List.mem_of_mem_take
def CS:=@MapKept.run_checkKey
def y2:=@List.cons.injEq
def CT:=@MapKept.run_findKey
def CU:=@Bool.not_eq_false'
def CV:=@List.foldl_append
def Jj:=@ByteArray.size_append
def CW:=@Bool.and_false
def FM:=@List.all_append
def Nv:=@MapKept.run_setObj_map
def Jk:=@List.all_eq_false
def Jl:=@DataW.trod_string
def Nw:=@Bool.and_eq_false_iff
def Nx:=@List.getLast?_concat
def Ny:=@List.dropLast_concat
def UL:=@List.perm_append_singleton
def Nz:=@List.flatten_cons
def NA:=@List.flatMap_nil
def NB:=@DataW.trod_array
def NC:=@List.sum_append
variable{I I':aZ}{M:List aB}{os:a'}{α:Type}{size j i t1 t2 t3 k sz:Nat}{ax:List Int}{c:Code}{d:aS}{P:Program}{t:cB}{x y:Operand}{g:bJ}{w:Bool}{F:Fr}{C:dp}{vs xs:List Value}{X:c3}{s:ByteArray}{dk tb:dU}{l:List (ByteArray×Int)}{v:Value}{m:List Bool}{L:List (List Int)}{W ku:World}{rows:List (List Value)}
def a'.ok.row{f:α->List Value}(aJ:∀ x,(f x).length=size)(ar:0<size){l:List α}(h:os.ok size (l.flatMap f)){e:Nat}(a1:∀ x∈os.aP e,x∈M)(an:j<l.length) :
  ∃ ad,os.a.map (λg=>(⟨g,0,none⟩:Addr))=some ad/\cr I M (ad.add (j*size)) size (f l[j]):=by
 have aq:l.length=os.n:=by have aa:=h.len;rw[fQ f size aJ]at aa;exact Nat.eq_of_mul_eq_mul_right ar aa
 cases aC:os.a with
 |none=>have:=(h.nil aC).1;omega
 |some g=>
  obtain⟨aa,ab,ag,aW⟩:=h.cap g aC;refine⟨⟨g,0,none⟩,rfl,?_⟩;have bs:j*size+size<=os.n*size:=by have:=rH size (show j+1<=os.n by omega);rw[kS,p6]at this;exact this
  have eA:os.n*size<=os.aK.length:=by rw[aa];exact rH _ ab
  have:=dO (I:=I) (M:=M) (b:=g) (T:=e) (cs:=os.aK) (a1 _ (by simp[a'.aP,aC])) (k:=j*size) (n:=size) (by omega);have az:(os.aK.drop (j*size)).take size=f l[j]:=by rw[<-xm f size aJ l j an,<-aW,xj,rU];congr 1;omega
  rw[az]at this;exact this
def AM:ByteArray:=⟨#[34]⟩
def y3:ByteArray:=⟨#[93,45,94]⟩
def y4(s:ByteArray):List UInt8:=[34]++s.data.toList.flatMap (oh · AM)++[34]
def strOf(l:List UInt8):ByteArray:=⟨l.toArray⟩
def FN{α β:Type}(f:α->List β)(m:Nat)(aJ:∀ x,(f x).length<=m):∀ l:List α,(l.flatMap f).length<=m*l.length
 |[]=>by simp
 |x::l=>by have aa:=FN f m aJ l;have ab:=aJ x;simp only[ob,cI,ea,Nat.mul_add];omega
def UM(s:ByteArray)(ap:s.size<=1099511627776):Spec Tryz.prog 278 [.string s] I [] λr I' M'=>r=.string (strOf (y4 s))/\I'=I/\M'=[]:=by
 refine bN [3] aV Tryz.func278 rfl rfl rfl ?_;intro B ar;refine b8.mk λb ai ph=>?_;refine a9.mk (fU.new.M b) [] _ (.refl _) (pk b fU.Jc 34 (by decide)) ?_;rintro v I' M' -⟨rfl,rfl,vt,fj,xv,rfl⟩;refine c4.inv (ι:=Nat×fU) (λp=>{ bu:=[(0,.val (.string s)),(3,.val (ptr b)),(4,.val (.int .i64 p.1))],cS:=I',db:=p.2.M b }) (λp=>p.1<=s.size/\p.2.ok/\p.2.cM=[34]++(s.data.toList.take p.1).flatMap (oh · AM)) (λp=>s.size-p.1) ?_ ?_
 ·exact⟨(0,vt),⟨by simp,fj,by simp[xv,fU.new]⟩,.perm (by simp) .refl,fH,.nil⟩
 ·rintro⟨i,x⟩⟨hi,ae,oj⟩;simp only at hi ae oj;have bQ:x.cM.length<=1+4*i:=by rw[oj];have:=FN (oh · AM) 4 (λc=>FH c AM) (s.data.toList.take i);have ab:=Aw i s.data.toList;simp only[cI,ea,gV];omega
  refine aU.mk (λh=>?_) (λh=>?_)
  ·have aR:i<s.size:=by simpa using h
   have bZ:i<s.data.toList.length:=aR;refine yy.mk i rfl aR ?_;refine a9.mk (x.M b) [] _ (by simp) (Je b ae s[i] AM (by omega)) ?_;rintro v I' M' -⟨rfl,y,aF,hl,rfl⟩;have fu:IntKind.i64.wrap ((i:Int)+1)=((i+1:Nat):Int):=by rw[wrap_i64 ⟨by omega,by omega⟩];omega
   refine bd.mk _ fu ?_;refine⟨(i+1,y),⟨⟨by simp only;omega,aF,?_⟩,by simp only;omega⟩,.perm (by simp) .refl,fH,.nil⟩;simp only;rw[hl,oj,gf bZ,lS,fq];congr 1;simp;rfl
  ·have cP:s.size<=i:=by simpa using h
   have hr:s.data.toList.take i=s.data.toList:=eW cP;refine a9.mk (x.M b) [] _ (by simp) (pk b ae 34 (by omega)) ?_;rintro v I' M' -⟨rfl,rfl,y,aF,hl,rfl⟩;refine a9.mk (y.M b) [] _ (by simp) (xq b aF (by rw[hl];simp;omega)) ?_;rintro v I' M' -⟨rfl,rfl,rfl⟩;refine⟨_,_,.refl,?_,rfl,by simp⟩;rw[hl,oj,hr];rfl
def ue(p:UInt8×UInt8):List UInt8:=
 oh p.1 y3++((bif decide (1<IntKind.u8.wrap ((p.2.toNat:Int)-p.1.toNat))then [45]else [])++(bif !decide ((p.2.toNat:Int)=p.1.toNat)then oh p.2 y3 else []))
def vK(ax:List Int)(a b c d:Int):List UInt8:=
 bif (a == hM 0&&(b == hM 0&&(c == hM 0&&d == hM 0)))then [46]else [91]++(pu (iz ax 0 [a,b,c,d])).flatMap ue++[93]
def UN(p:UInt8×UInt8):(ue p).length<=9:=by
 have aa:=FH p.1 y3;have ab:=FH p.2 y3;unfold ue;cases decide (1<IntKind.u8.wrap ((p.2.toNat:Int)-p.1.toNat))<;>cases decide ((p.2.toNat:Int)=p.1.toNat)<;>simp<;>omega
def UO(ax:List Int)(a b c d:Int):(pu (iz ax 0 [a,b,c,d])).length<=256:=by have aa:=Nt ax [a,b,c,d] 0;have ab:=UI (iz ax 0 [a,b,c,d]);simp only[ea,gV]at aa;omega
def afk(ax:List Int)(a b c d:Int):(vK ax a b c d).length<=2306:=by
 have aa:=UO ax a b c d;have ab:=FN ue 9 UN (pu (iz ax 0 [a,b,c,d]));unfold vK;cases(a == hM 0&&(b == hM 0&&(c == hM 0&&d == hM 0)))
 ·simp only[bh,cI,ea,gV];omega
 ·simp
def afl(AK:r0 I ax){a b c d:Int}(ta:∀ x∈[a,b,c,d],gi x):Spec Tryz.prog 279 [.agg #[.int .u64 a,.int .u64 b,.int .u64 c,.int .u64 d]] I []
  λr I' M'=>r=.string (strOf (vK ax a b c d))/\(∀ b o,I b=some o->I' b=some o)/\M'=[]:=by
 refine bN [3] aV Tryz.func279 rfl rfl rfl ?_;intro B ar;refine c5.draw aV rfl rfl rfl ?_;refine hf.mk _ ae9 ?_;rintro v I' M' -⟨rfl,rfl,rfl⟩;refine e'.M6 aV (e:=47) rfl rfl rfl rfl (by kernel_rfl) ?_;refine aU.mk (λh=>?_) (λh=>?_)
 ·refine⟨_,_,.refl,?_,λ_ _ h=>h,rfl⟩;simp only[vK,h];rfl
 ·refine b8.mk λg au xp=>?_;refine a9.mk (fU.new.M g) [] _ (.refl _) (pk g fU.Jc 91 (by decide)) ?_;rintro v I' M' -⟨rfl,rfl,vt,fj,xv,rfl⟩;refine a9.mk [] (vt.M g) _ (by simp) (afi AK ta) ?_;rintro v cU M1 -⟨bO,os,rfl,ca,rfl⟩;have gW:=UO ax a b c d;have eA:vK ax a b c d=[91]++(pu (iz ax 0 [a,b,c,d])).flatMap ue++[93]:=by simp only[vK,h];rfl
  generalize lp:pu (iz ax 0 [a,b,c,d])=a8 at *;have aq:a8.length=os.n:=by have:=ca.len;rw[Ji]at this;omega
  refine c4.inv (ι:=Nat×fU) (λp=>{ bu:=[(3,.val (ptr g)),(11,.val os.val),(12,.val (.int .i64 os.n)),(13,.val (.int .i64 p.1))],cS:=cU,db:=p.2.M g++os.aP 386 }) (λp=>p.1<=os.n/\p.2.ok/\p.2.cM=[91]++(a8.take p.1).flatMap ue) (λp=>os.n-p.1) ?_ ?_;·exact⟨(0,vt),⟨by simp,fj,by simp[xv,fU.new]⟩,.perm (by simpa using hX) .refl,ey,.nil⟩
  ·rintro⟨i,x⟩⟨hi,ae,oj⟩;simp only at hi ae oj;have bQ:x.cM.length<=1+9*i:=by rw[oj];have:=FN ue 9 UN (a8.take i);have ab:=Aw i a8;simp only[cI,ea,gV];omega
   refine aU.mk (λh=>?_) (λh=>?_)
   ·have aR:i<os.n:=by simpa using h
    have bZ:i<a8.length:=by omega
    obtain⟨ad,bF,bk⟩:=a'.ok.row (I:=cU) (M:=x.M g++os.aP 386) (f:=jH) (λ_=>rfl) (by decide) ca (e:=386) (λy aF=>by simp[aF]) bZ;refine bi.mk ad i bF rfl aR ?_;refine aI.mk _ bk ?_;generalize aD:a8[i]=p;refine dV.mk 0 rfl (by decide) ?_;refine a9.mk (x.M g) (os.aP 386) _ (.refl _) (Je g ae p.1 y3 (by omega)) ?_;rintro v I' M' -⟨rfl,y,aF,hl,rfl⟩;have s8:y.cM.length<=5+9*i:=by rw[hl,cI];have:=FH p.1 y3;omega
    refine dV.mk 1 rfl (by decide) ?_;refine dV.mk 0 rfl (by decide) ?_;refine bd.mk _ rfl ?_;refine aU.mk (λeg=>?_) (λeg=>?_)
    ·refine a9.mk (y.M g) (os.aP 386) _ (by simp) (pk g aF 45 (by omega)) ?_;rintro v I' M' -⟨rfl,rfl,u,hu,xr,rfl⟩;have UP:u.cM.length<=6+9*i:=by rw[xr];simp;omega
     refine dV.mk 1 rfl (by decide) ?_;refine dV.mk 0 rfl (by decide) ?_;refine aU.mk (λcA=>?_) (λcA=>?_)
     ·refine dV.mk 1 rfl (by decide) ?_;refine a9.mk (u.M g) (os.aP 386) _ (by simp) (Je g hu p.2 y3 (by omega)) ?_;rintro v I' M' -⟨rfl,z,bf,s7,rfl⟩;have fu:IntKind.i64.wrap ((i:Int)+1)=((i+1:Nat):Int):=by rw[wrap_i64 ⟨by omega,by omega⟩];omega
      refine bd.mk _ fu ?_;refine⟨(i+1,z),⟨⟨by simp only;omega,bf,?_⟩,by simp only;omega⟩,.perm (by simp) .refl,ey,.nil⟩;simp only;rw[s7,xr,hl,oj,gf bZ,lS,aD];simp[ue,eg,cA]
     ·have fu:IntKind.i64.wrap ((i:Int)+1)=((i+1:Nat):Int):=by rw[wrap_i64 ⟨by omega,by omega⟩];omega
      refine bd.mk _ fu ?_;refine⟨(i+1,u),⟨⟨by simp only;omega,hu,?_⟩,by simp only;omega⟩,.perm (by simp) .refl,ey,.nil⟩;simp only;rw[xr,hl,oj,gf bZ,lS,aD];simp[ue,eg,cA]
    ·refine dV.mk 1 rfl (by decide) ?_;refine dV.mk 0 rfl (by decide) ?_;refine aU.mk (λcA=>?_) (λcA=>?_)
     ·refine dV.mk 1 rfl (by decide) ?_;refine a9.mk (y.M g) (os.aP 386) _ (by simp) (Je g aF p.2 y3 (by omega)) ?_;rintro v I' M' -⟨rfl,z,bf,s7,rfl⟩;have fu:IntKind.i64.wrap ((i:Int)+1)=((i+1:Nat):Int):=by rw[wrap_i64 ⟨by omega,by omega⟩];omega
      refine bd.mk _ fu ?_;refine⟨(i+1,z),⟨⟨by simp only;omega,bf,?_⟩,by simp only;omega⟩,.perm (by simp) .refl,ey,.nil⟩;simp only;rw[s7,hl,oj,gf bZ,lS,aD];simp[ue,eg,cA]
     ·have fu:IntKind.i64.wrap ((i:Int)+1)=((i+1:Nat):Int):=by rw[wrap_i64 ⟨by omega,by omega⟩];omega
      refine bd.mk _ fu ?_;refine⟨(i+1,y),⟨⟨by simp only;omega,aF,?_⟩,by simp only;omega⟩,.perm (by simp) .refl,ey,.nil⟩;simp only;rw[hl,oj,gf bZ,lS,aD];simp[ue,eg,cA]
   ·have cP:os.n<=i:=by simpa using h
    have hr:a8.take i=a8:=eW (by omega);refine a9.mk (x.M g) (os.aP 386) _ (.refl _) (pk g ae 93 (by omega)) ?_;rintro v I' M' -⟨rfl,rfl,y,aF,hl,rfl⟩;refine a9.mk (y.M g) (os.aP 386) _ (.refl _) (xq g aF (by rw[hl];simp;omega)) ?_;rintro v I' M' -⟨rfl,rfl,rfl⟩;refine⟨_,_,.sub (fZ _) .refl,?_,bO,rfl⟩;rw[hl,oj,hr,eA];rfl
structure Jm(d:aS):Prop where
 k:d.k<10
 t:d.t.size<=255
 qd:d.k=6->0<=d.lo/\d.lo<=99/\(d.hi=-1\/(d.lo<=d.hi/\d.hi<=99))
def FO{n:Int}(h:fits d n=true):Jm d:=by
 unfold fits at h;cases aa:decide (10<=d.k)with
 |true=>rw[aa]at h;cases h
 |false=>
  rw[aa]at h;simp only[bh]at h;have af:d.k<10:=by simpa using aa
  cases ab:(decide (n<s5 d.k.toNat)||(decide (0<=p' d.k.toNat)&&decide (p' d.k.toNat<n)))with
  |true=>rw[ab]at h;cases h
  |false=>
   rw[ab]at h;simp only[bh]at h;have cG:d.t=⟨#[]⟩->d.t.size<=255:=λe=>by rw[e];decide
   cases ag:decide (d.k=1)with
   |true=>rw[ag]at h;simp only[bl,b',eU]at h;exact⟨af,cG h.1,λe=>by simp at ag;omega⟩
   |false=>
    rw[ag]at h;simp only[bh]at h;cases aW:decide (d.k=2)with
    |true=>rw[aW]at h;simp only[bl,b',oX,oa,nr]at h;exact⟨af,by omega,λe=>by simp at aW;omega⟩
    |false=>
     rw[aW]at h;simp only[bh]at h;cases bC:(decide (d.k=3)||decide (d.k=9))with
     |true=>rw[bC]at h;simp only[bl,b']at h;refine⟨af,?_,λe=>by simp at bC;omega⟩;have:=h.1;unfold kl at this;simp only[b',eU]at this;omega
     |false=>
      rw[bC]at h;simp only[bh]at h;cases bP:decide (d.k=6)with
      |true=>
       rw[bP]at h;simp only[bl,b',eU,oX,oa,nr,Nw]at h;refine⟨af,cG h.2.2,λ_=>?_⟩;obtain⟨⟨a3,a6,bI⟩,_⟩:=h;refine⟨by omega,by omega,?_⟩;rcases bI with bI | bI
       ·left
        simpa using bI
       ·right
        omega
      |false=>rw[bP]at h;simp only[bh,b',eU]at h;exact⟨af,cG h.2.1,λe=>by simp at bP;omega⟩
def FP:List Value:=[.int .i64 0,.int .i64 1,.string ⟨#[63]⟩,.int .i64 0,.int .i64 (-1),.string ⟨#[42]⟩,.int .i64 1,.int .i64 (-1),.string ⟨#[43]⟩]
def ND(I:aZ):Prop:=∃ T al,I 3=some (.cells FP.toArray T al)
def y5(lo:Nat)(hi:Int):List UInt8:=
 bif decide (hi=lo)then [123]++mO lo++[125]else
 bif decide (hi=-1)then [123]++mO lo++[44,125]else [123]++mO lo++[44]++mO hi.toNat++[125]
def qe(lo:Nat)(hi:Int):List UInt8:=
 bif decide ((0:Int)=lo)&&decide (1=hi)then [63]else
 bif decide ((0:Int)=lo)&&decide (-1=hi)then [42]else
 bif decide ((1:Int)=lo)&&decide (-1=hi)then [43]else y5 lo hi
def afm(lo:Nat)(hi:Int):(y5 lo hi).length<=7:=by
 have aa:=FI lo;have ab:=FI hi.toNat;unfold y5;cases decide (hi=lo)<;>cases decide (hi=-1)<;>simp<;>omega
def afn(lo:Nat)(hi:Int):(qe lo hi).length<=7:=by
 have aa:=afm lo hi;unfold qe;cases(decide ((0:Int)=lo)&&decide (1=hi))<;>cases(decide ((0:Int)=lo)&&decide (-1=hi))<;>cases(decide ((1:Int)=lo)&&decide (-1=hi))<;>simp<;>omega
def UQ(n:Nat):(yV n).size<=2:=FI n
def qf(lo hi:Int):aS:=⟨6,0,0,0,0,⟨#[]⟩,lo,hi,none,0,0,[]⟩
def afo{lo:Nat}{hi:Int}(e9:lo<=99)(fY:hi=-1\/((lo:Int)<=hi/\hi<=99)):fits (qf lo hi) 1=true:=by
 have az:s5 6=1:=by decide
 have aE:p' 6=1:=by decide
 rcases fY with rfl | ⟨aa,ab⟩
 ·simp[fits,qf,az,aE,aS.qa];exact⟨de (by omega),de (by omega)⟩
 ·simp[fits,qf,az,aE,aS.qa];exact⟨de (by omega),de (by omega),.inr ⟨de (by omega),de (by omega)⟩⟩
def afp(a b:List UInt8):strOf a++strOf b=strOf (a++b):=by apply CM;simp[strOf]
def e'.y6{t:Nat}{a b:List UInt8}(ap:a.length+b.length<=9223372036854775807){V:Value->Prop}{other:Prop}(h:V (.string (strOf (a++b)))):e' P .add t x y (.val (.string (strOf a))) (.val (.string (strOf b))) V other:=
 e'.concat (a:=strOf a) (b:=strOf b) ap (by rw[afp];exact h)
def afq(aA:q0 I)(aD:ND I)(lo:Nat)(hi:Int)(e9:lo<=99)(fY:hi=-1\/((lo:Int)<=hi/\hi<=99)):Spec Tryz.prog 280 [.int .i64 lo,.int .i64 hi] I []
  λr I' M'=>r=.string (strOf (qe lo hi))/\I'=I/\M'=[]:=by
 refine bN [] aV Tryz.func280 rfl rfl rfl ?_;intro B ar;have bj:(qf lo hi).ok I:=⟨by simp[qf],by simp[qf,gi],by simp[qf,gi],by simp[qf,gi],by simp[qf,gi],by show(0:Nat)<=_;omega,⟨by simp only[qf];omega,by simp only[qf];omega⟩,⟨by simp only[qf];omega,by simp only[qf];omega⟩,⟨rfl,⟨cj _,by simp[qf]⟩,.inl rfl⟩,by simp[qf]⟩;refine a9.mk [] [] _ (.refl _) (Ul aA bj 1) ?_;rintro v I' M' -⟨rfl,rfl,rfl⟩;rw[afo e9 fY];refine aU.mk (λh=>by cases h) (λ_=>?_);have bk:cr I' ([]++[]) ⟨3,0,none⟩ 9 FP:=by obtain⟨T,al,aD⟩:=aD;exact⟨rfl,_,T,al,.inl aD,rfl,rfl⟩
 refine aI.mk _ bk ?_;refine c4.inv (ι:=Nat) (λi=>{ bu:=[(0,.val (.int .i64 lo)),(1,.val (.int .i64 hi)),(12,.val (.agg FP.toArray)),(13,.val (.int .i64 i))],cS:=I' }) (λi=>i<=3/\(1<=i->(decide ((0:Int)=lo)&&decide (1=hi))=false)/\(2<=i->(decide ((0:Int)=lo)&&decide (-1=hi))=false)/\(3<=i->(decide ((1:Int)=lo)&&decide (-1=hi))=false)) (λi=>3-i) ?_ ?_
 ·exact⟨0,⟨by simp,by simp,by simp,by simp⟩,.refl,ey,.nil⟩
 ·rintro i⟨iq,dH,m2,afr⟩
  match i,iq with
  |0,_=>
   refine aU.mk (λ_=>?_) (λh=>by simp at h);refine dV.mk 0 rfl (by decide) ?_;have next:(decide ((0:Int)=lo)&&decide (1=hi))=false->(((0+1:Nat)<=3/\(1<=(0+1:Nat)->(decide ((0:Int)=lo)&&decide (1=hi))=false)/\(2<=(0+1:Nat)->(decide ((0:Int)=lo)&&decide (-1=hi))=false)/\(3<=(0+1:Nat)->(decide ((1:Int)=lo)&&decide (-1=hi))=false))/\3-(0+1)<3-0):=λh=>by
    refine⟨⟨by simp,λ_=>?_,λbr=>?_,λbr=>?_⟩,by simp⟩;·exact h
    ·simp at br
    ·simp at br
   refine b4.mk (λa3=>?_) (λa3=>?_)
   ·refine aU.mk (λa6=>?_) (λa6=>?_)
    ·refine⟨_,_,.refl,?_,rfl,rfl⟩;have:qe lo hi=[63]:=by unfold qe;rw[a3,a6];rfl
     rw[this];rfl
    ·refine bd.mk 1 (by decide) ?_;exact⟨1,next (by rw[a3,a6];rfl),.refl,ey,.nil⟩
   ·refine bd.mk 1 (by decide) ?_;exact⟨1,next (by rw[a3];rfl),.refl,ey,.nil⟩
  |1,_=>
   refine aU.mk (λ_=>?_) (λh=>by simp at h);refine dV.mk 1 rfl (by decide) ?_;have next:(decide ((0:Int)=lo)&&decide (-1=hi))=false->(((1+1:Nat)<=3/\(1<=(1+1:Nat)->(decide ((0:Int)=lo)&&decide (1=hi))=false)/\(2<=(1+1:Nat)->(decide ((0:Int)=lo)&&decide (-1=hi))=false)/\(3<=(1+1:Nat)->(decide ((1:Int)=lo)&&decide (-1=hi))=false))/\3-(1+1)<3-1):=λh=>by
    refine⟨⟨by simp,λ_=>?_,λbr=>?_,λbr=>?_⟩,by simp⟩;·exact dH (by decide)
    ·exact h
    ·simp at br
   refine b4.mk (λa3=>?_) (λa3=>?_)
   ·refine aU.mk (λa6=>?_) (λa6=>?_)
    ·refine⟨_,_,.refl,?_,rfl,rfl⟩;have:qe lo hi=[42]:=by unfold qe;rw[dH (by decide),a3,a6];rfl
     rw[this];rfl
    ·refine bd.mk 2 (by decide) ?_;exact⟨2,next (by rw[a3,a6];rfl),.refl,ey,.nil⟩
   ·refine bd.mk 2 (by decide) ?_;exact⟨2,next (by rw[a3];rfl),.refl,ey,.nil⟩
  |2,_=>
   refine aU.mk (λ_=>?_) (λh=>by simp at h);refine dV.mk 2 rfl (by decide) ?_;have next:(decide ((1:Int)=lo)&&decide (-1=hi))=false->(((2+1:Nat)<=3/\(1<=(2+1:Nat)->(decide ((0:Int)=lo)&&decide (1=hi))=false)/\(2<=(2+1:Nat)->(decide ((0:Int)=lo)&&decide (-1=hi))=false)/\(3<=(2+1:Nat)->(decide ((1:Int)=lo)&&decide (-1=hi))=false))/\3-(2+1)<3-2):=λh=>by
    refine⟨⟨by simp,λ_=>?_,λbr=>?_,λbr=>?_⟩,by simp⟩;·exact dH (by decide)
    ·exact m2 (by decide)
    ·exact h
   refine b4.mk (λa3=>?_) (λa3=>?_)
   ·refine aU.mk (λa6=>?_) (λa6=>?_)
    ·refine⟨_,_,.refl,?_,rfl,rfl⟩;have:qe lo hi=[43]:=by unfold qe;rw[dH (by decide),m2 (by decide),a3,a6];rfl
     rw[this];rfl
    ·refine bd.mk 3 (by decide) ?_;exact⟨3,next (by rw[a3,a6];rfl),.refl,ey,.nil⟩
   ·refine bd.mk 3 (by decide) ?_;exact⟨3,next (by rw[a3];rfl),.refl,ey,.nil⟩
  |3,_=>
   refine aU.mk (λh=>by simp at h) (λ_=>?_);have az:=dH (by decide);have aE:=m2 (by decide);have bz:=afr (by decide);have jg:qe lo hi=y5 lo hi:=by unfold qe;rw[az,aE,bz];rfl
   rw[jg];have uf:=UQ lo;have Ak:=UQ hi.toNat;have uf:=FI lo;refine aU.mk (λh=>?_) (λh=>?_);·refine a9.mk [] [] _ (.refl _) (Jg lo (by omega)) ?_;rintro v I' M' -⟨rfl,rfl,rfl⟩;refine e'.y6 (a:=[123]) (b:=mO lo) (by simp;omega) ?_;refine e'.y6 (a:=[123]++mO lo) (b:=[125]) (by simp;omega) ?_;refine⟨_,_,.refl,?_,rfl,rfl⟩;rw[y5,h];rfl
   ·refine aU.mk (λk=>?_) (λk=>?_)
    ·refine a9.mk [] [] _ (.refl _) (Jg lo (by omega)) ?_;rintro v I' M' -⟨rfl,rfl,rfl⟩;refine e'.y6 (a:=[123]) (b:=mO lo) (by simp;omega) ?_;refine e'.y6 (a:=[123]++mO lo) (b:=[44,125]) (by simp;omega) ?_;refine⟨_,_,.refl,?_,rfl,rfl⟩;rw[y5,h,k];rfl
    ·refine a9.mk [] [] _ (.refl _) (Jg lo (by omega)) ?_;rintro v I' M' -⟨rfl,rfl,rfl⟩;have af:hi≠-1:=by simpa using k
     obtain⟨aq,rfl⟩:=h' (show 0<=hi by omega);have Ak:=FI aq;refine e'.y6 (a:=[123]) (b:=mO lo) (by simp;omega) ?_;refine e'.y6 (a:=[123]++mO lo) (b:=[44]) (by simp;omega) ?_;refine a9.mk [] [] _ (.refl _) (Jg aq (by omega)) ?_;rintro v I' M' -⟨rfl,rfl,rfl⟩;refine e'.y6 (a:=[123]++mO lo++[44]) (b:=mO aq) (by simp;omega) ?_;refine e'.y6 (a:=[123]++mO lo++[44]++mO aq) (b:=[125]) (by simp;omega) ?_;refine⟨_,_,.refl,?_,rfl,rfl⟩;rw[y5,h,k];rfl
def ug:List (List UInt8):=[[],[],[],[],[],[],[],[],[],[],[],[],[],[32],[],[],[32,47,32],[],[],[],[],[38],[],[],[33],[],[],[60],[],[62]]
def h1(j:Nat):List UInt8:=ug.getD j []
def FQ(I:aZ):Prop:=∃ T al,I 1=some (.cells (ug.map λl=>Value.string (strOf l)).toArray T al)
def FQ.rd(h:FQ I)(M:List aB)(an:i+j<30):cr I M ((Addr.add ⟨1,0,none⟩ i).add j) 1 [.string (strOf (h1 (i+j)))]:=by
 obtain⟨T,al,h⟩:=h;rw[yZ,dL _ rfl];refine⟨rfl,_,T,al,.inl h,?_,rfl⟩;have aa:i+j<(ug.map λl=>Value.string (strOf l)).length:=by simp[ug];omega
 have ab:i+j<ug.length:=by simp[ug];omega
 simp only[c0];rw[eE aa,nt,mK];simp[h1,cC,ab]
def FR(j:Nat):(h1 j).length<=3:=by
 by_cases h:j<30
 ·have:∀ j:Fin 30,(h1 j.val).length<=3:=by decide
  exact this ⟨j,h⟩
 ·have:ug.length<=j:=by simp[ug];omega
  simp[h1,cC,this]
def kv(ax:List Int)(d:aS):List UInt8:=
 bif decide (d.k=0)||decide (d.k=2)then y4 d.t else
 bif decide (d.k=1)then vK ax d.dT d.s1 d.s2 d.ec else
 bif decide (d.k=3)then d.t.data.toList else
 bif decide (d.k=9)then h1 27++d.t.data.toList++[58,32]else h1 (d.k.toNat*3)
def jI(d:aS):List UInt8:=bif decide (d.k=6)then qe d.lo.toNat d.hi else h1 (d.k.toNat*3+2)
def afs(s:ByteArray):strOf s.data.toList=s:=CM (by simp[strOf])
def NE(aA:q0 I)(aD:ND I)(Jn:FQ I)(ah:d.ok I)(aJ:Jm d):Spec Tryz.prog 263 [d.val] I [] λr I' M'=>r=.string (strOf (jI d))/\I'=I/\M'=[]:=by
 refine bN [] aV Tryz.func263 rfl rfl rfl ?_;intro B ar;refine aU.mk (λh=>?_) (λh=>?_)
 ·obtain⟨a3,a6,bI⟩:=aJ.qd (by simpa using h);have az:d.lo=((d.lo.toNat:Nat):Int):=by omega
  have lJ:=afq aA aD d.lo.toNat d.hi (by omega) (by omega);rw[<-az]at lJ;refine a9.mk [] [] _ (.refl _) lJ ?_;rintro v I' M' -⟨rfl,rfl,rfl⟩;refine⟨_,_,.refl,?_,rfl,rfl⟩;simp only[jI,h];rfl
 ·have af:=ah.k;have r1:=aJ.k;refine dV.mk d.k.toNat (by omega) (by omega) ?_;refine aI.mk _ (Jn.rd _ (by show d.k.toNat*3+2<30;omega)) ?_;refine⟨_,_,.refl,?_,rfl,rfl⟩;simp only[jI,h];rfl
def UR(AK:r0 I ax)(Jn:FQ I)(ah:d.ok I)(aJ:Jm d):Spec Tryz.prog 261 [d.val] I []
  λr I' M'=>r=.string (strOf (kv ax d))/\(∀ b o,I b=some o->I' b=some o)/\M'=[]:=by
 refine bN [] aV Tryz.func261 rfl rfl rfl ?_;intro B ar;have af:=ah.k;have r1:=aJ.k;have ay:=aJ.t;have lit:(decide (d.k=0)||decide (d.k=2))=true->kv ax d=y4 d.t:=λh=>by simp only[kv,h];rfl
 refine aU.mk (λaa=>?_) (λaa=>?_)
 ·refine aU.mk (λ_=>?_) (λh=>by rw[aa]at h;cases h);refine a9.mk [] [] _ (.refl _) (UM d.t (by omega)) ?_;rintro v I' M' -⟨rfl,rfl,rfl⟩;refine⟨_,_,.refl,?_,λ_ _ h=>h,rfl⟩;rw[lit (by rw[aa];rfl)]
 ·refine aU.mk (λab=>?_) (λab=>?_)
  ·refine a9.mk [] [] _ (.refl _) (UM d.t (by omega)) ?_;rintro v I' M' -⟨rfl,rfl,rfl⟩;refine⟨_,_,.refl,?_,λ_ _ h=>h,rfl⟩;rw[lit (by rw[ab];simp)]
  ·refine aU.mk (λag=>?_) (λag=>?_)
   ·refine a9.mk [] [] _ (.refl _) (afl AK (a:=d.dT) (b:=d.s1) (c:=d.s2) (d:=d.ec) (λx ae=>by
     simp only[ef,List.not_mem_nil,or_false]at ae;rcases ae with rfl | rfl | rfl | rfl;·exact ah.dT
     ·exact ah.s1
     ·exact ah.s2
     ·exact ah.ec)) ?_
    rintro v I' M' -⟨rfl,bA,rfl⟩;refine⟨_,_,.refl,?_,bA,rfl⟩;simp only[kv,aa,ab,ag];rfl
   ·refine aU.mk (λaW=>?_) (λaW=>?_)
    ·refine⟨_,_,.refl,?_,λ_ _ h=>h,rfl⟩;simp only[kv,aa,ab,ag,aW];rw[<-afs d.t];rfl
    ·refine aU.mk (λbC=>?_) (λbC=>?_)
     ·have NF:d.k=9:=by simpa using bC
      refine c5.draw aV rfl rfl rfl ?_;refine dV.mk 9 NF (by decide) ?_;refine aI.mk _ (Jn.rd _ (by decide)) ?_;have fs:(strOf (h1 27)).size=1:=by decide
      refine e'.concat (a:=strOf (h1 27)) (b:=d.t) (by omega) ?_;refine e'.concat (a:=strOf (h1 27)++d.t) (b:=strOf [58,32]) (by rw[Jj];show _+2<=_;omega) ?_;refine⟨_,_,.refl,?_,λ_ _ h=>h,rfl⟩;simp only[kv,aa,ab,ag,aW,bC];refine congrArg Value.string (CM ?_);simp[strOf]
     ·refine dV.mk d.k.toNat (by omega) (by omega) ?_;refine aI.mk _ (Jn.rd _ (by show d.k.toNat*3+0<30;omega)) ?_;refine⟨_,_,.refl,?_,λ_ _ h=>h,rfl⟩;simp only[kv,aa,ab,ag,aW,bC];rfl
def kW(ns:List aS)(k:Int):Int:=(ns.map (·.k)).getD k.toNat 0
def paren(w:Bool)(s:List UInt8):List UInt8:=(bif w then [40]else [])++(s++(bif w then [41]else []))
def qg(sep:List UInt8)(f:Int->List UInt8):Bool->List Int->List UInt8
 |_,[]=>[]| b,k::ks=>(bif b then sep else [])++(f k++qg sep f true ks)
def px(d:aS):List UInt8:=h1 (d.k.toNat*3+1)
def y7(ax:List Int)(ns:List aS)(d:aS)(g:Int->List UInt8):List UInt8:=
 kv ax d++(qg (px d) (λk=>paren (g1 d.k (kW ns k)) (g k)) false d.aL++jI d)
def kw(ax:List Int)(ns:List aS):Int->List UInt8:=qc [] (y7 ax ns) ns
def kX(ax:List Int)(t:cB):List UInt8:=bif right t then kw ax t.ns t.bD else []
def US{sep:List UInt8}{f g:Int->List UInt8}:∀ {ks:List Int} {b:Bool},(∀ k∈ks,f k=g k)->qg sep f b ks=qg sep g b ks
 |[],b,_=>rfl| k::ks,b,h=>by unfold qg;rw[h k (by simp),US λx ae=>h x (by simp[ae])]
def NG(ak:right t=true)(an:j<t.ns.length):kw ax t.ns j=y7 ax t.ns t.ns[j] (kw ax t.ns):=by refine FF (λd g dv h=>?_) ak an;unfold y7;rw[US λk af=>by rw[h k af]]
def aft(w:Bool)(s:List UInt8):(paren w s).length<=s.length+2:=by cases w<;>simp[paren]
def UT{sep:List UInt8}{f:Int->List UInt8}(ap:sep.length<=3){g:Int->Nat}(aJ:∀ k,(f k).length+3<=g k):∀ {ks:List Int} {b:Bool},(qg sep f b ks).length<=gX g ks
 |[],b=>by simp[qg,gX]
 |k::ks,b=>by
  have aa:=UT ap aJ (ks:=ks) (b:=true);have ab:=aJ k;unfold qg;simp only[cI,gX,cY,oc]at aa |-;cases b<;>simp<;>omega
def NH(ax:List Int)(aJ:Jm d):(kv ax d).length<=2400:=by
 have aa:(y4 d.t).length<=2+4*d.t.size:=by have:=FN (oh · AM) 4 (λc=>FH c AM) d.t.data.toList;have ab:d.t.data.toList.length=d.t.size:=rfl;simp only[y4,cI,ea,gV];omega
 have ab:=afk ax d.dT d.s1 d.s2 d.ec;have ag:=aJ.t;have aW:=FR 27;have bC:=FR (d.k.toNat*3);have bP:d.t.data.toList.length=d.t.size:=rfl;unfold kv;cases(decide (d.k=0)||decide (d.k=2))<;>cases decide (d.k=1)<;>cases decide (d.k=3)<;>cases decide (d.k=9)<;>simp only[bl,bh,cI,ea,gV]<;>omega
def Jo(d:aS):(jI d).length<=7:=by
 have aa:=afn d.lo.toNat d.hi;have ab:=FR (d.k.toNat*3+2);unfold jI;cases decide (d.k=6)<;>simp only[bl,bh]<;>omega
def Jp{α:Type}(c:Nat):∀ l:List α,(l.map λ_=>c).sum=c*l.length
 |[]=>by simp
 |x::l=>by rw[cY,oc,Jp c l,ea,Nat.mul_add];omega
def UU(ak:right t=true):(kw ax t.ns t.bD).length+5<=2412*t.ns.length:=by
 have h:=No ak (g:=λk=>(kw ax t.ns k).length+5) (c:=λ_=>2412) λj an=>by rw[NG ak an];have aa:=NH ax (FO (AH ak an));have ab:=Jo t.ns[j];have ag:=UT (sep:=px t.ns[j]) (FR _) (f:=λk=>paren (g1 t.ns[j].k (kW t.ns k)) (kw ax t.ns k)) (g:=λk=>(kw ax t.ns k).length+5) (λk=>by have:=aft (g1 t.ns[j].k (kW t.ns k)) (kw ax t.ns k);omega) (ks:=t.ns[j].aL) (b:=false);unfold y7;simp only[cI];omega
 rw[Jp]at h;exact h
def UW(ax:List Int)(t:cB):(kX ax t).length<=2412*t.ns.length:=by
 unfold kX;cases ak:right t with
 |false=>simp| true=>have:=UU (ax:=ax) ak;simp only[bl];omega
abbrev Open:=Nat×Nat×Bool
def mR(e:Open):List Value:=[.int .i64 e.1,.int .i64 e.2.1,.bool e.2.2]
def nodeAt(ns:List aS)(j:Nat):aS:=ns.getD j ⟨0,0,0,0,0,.empty,0,0,none,0,0,[]⟩
def NI(ax:List Int)(ns:List aS)(d:aS)(k:Int):List UInt8:=paren (g1 d.k (kW ns k)) (kw ax ns k)
def om(ax:List Int)(ns:List aS)(e:Open):List UInt8:=bif decide ((e.2.1:Int)=0)then(bif e.2.2 then [40]else [])++kv ax (nodeAt ns e.1)else []
def uh(ax:List Int)(ns:List aS)(e:Open):List UInt8:=
 om ax ns e++(qg (px (nodeAt ns e.1)) (NI ax ns (nodeAt ns e.1)) (decide (0<(e.2.1:Int))) ((nodeAt ns e.1).aL.drop e.2.1)++(jI (nodeAt ns e.1)++(bif e.2.2 then [41]else [])))
def y8(ns:List aS):Int->Nat:=qc 0 (λd g=>2+gX g d.aL) ns
def nz(ns:List aS)(e:Open):Nat:=1+gX (y8 ns) ((nodeAt ns e.1).aL.drop e.2.1)
def vL(ns:List aS)(aG:List Open):Nat:=(aG.map (nz ns)).sum
def ui(ax:List Int)(ns:List aS)(aG:List Open):List UInt8:=aG.reverse.flatMap (uh ax ns)
def AN(ax:List Int)(ns:List aS)(aG:List Open)(e:Open):ui ax ns (aG++[e])=uh ax ns e++ui ax ns aG:=by simp[ui]
def r2(ns:List aS)(aG:List Open)(e:Open):vL ns (aG++[e])=vL ns aG+nz ns e:=by simp[vL]
def UX(ns:List aS):∀ aG:List Open,aG.length<=vL ns aG
 |[]=>by simp
 |e::aG=>by have:=UX ns aG;simp only[vL,cY,oc,ea,nz]at this |-;omega
def tc{ns:List aS}(h:j<ns.length):nodeAt ns j=ns[j]:=by simp[nodeAt,cC,h]
def UY{g dv:Int->Nat}{ks:List Int}(h:∀ k∈ks,g k=dv k):gX g ks=gX dv ks:=by unfold gX;rw[rT h]
def UZ(ak:right t=true)(an:j<t.ns.length):y8 t.ns j=2+gX (y8 t.ns) t.ns[j].aL:=
 FF (λd g dv h=>by rw[UY h]) ak an
def afu(ak:right t=true):y8 t.ns t.bD<=2*t.ns.length:=by
 have:=No ak (g:=y8 t.ns) (c:=λ_=>2) λj an=>by rw[UZ ak an];exact cj _
 rwa [Jp]at this
def U0(ak:right t=true)(an:j<t.ns.length)(w:Bool):uh ax t.ns (j,0,w)=paren w (kw ax t.ns j):=by rw[NG ak an];simp only[uh,om,tc an];cases w<;>simp[paren,y7,NI]<;>rfl
def U1(ak:right t=true)(an:j<t.ns.length)(w:Bool):nz t.ns (j,0,w)+1=y8 t.ns j:=by rw[UZ ak an];simp[nz,tc an];omega
def NJ(ak:right t=true)(an:j<t.ns.length)(hi:i<t.ns[j].aL.length) :
  uh ax t.ns (j,i,w)=om ax t.ns (j,i,w)++((bif decide (0<(i:Int))then px t.ns[j]else [])++(uh ax t.ns (t.ns[j].aL[i].toNat,0,g1 t.ns[j].k (kW t.ns t.ns[j].aL[i]))++uh ax t.ns (j,i+1,w))):=by
 have af:=mm ak j an _ (cJ hi);rw[U0 ak (by omega)];have az:(((t.ns[j].aL[i].toNat:Nat):Int))=t.ns[j].aL[i]:=yN af.1;rw[az];have ah:=eE hi;simp only[uh,tc an];rw[ah];have aE:om ax t.ns (j,i+1,w)=[]:=by have:decide (((i+1:Nat):Int)=0)=false:=de (by omega);simp only[om,this,bh]
 have bz:decide (0<((i+1:Nat):Int))=true:=eN (by omega);rw[aE,bz];simp only[qg,NI,fq,jZ]
def NK(ak:right t=true)(an:j<t.ns.length){w':Bool}(hi:i<t.ns[j].aL.length):nz t.ns (j,i+1,w)+nz t.ns (t.ns[j].aL[i].toNat,0,w')+1=nz t.ns (j,i,w):=by
 have af:=mm ak j an _ (cJ hi);have aa:=U1 ak (j:=t.ns[j].aL[i].toNat) (by omega) w';have az:(((t.ns[j].aL[i].toNat:Nat):Int))=t.ns[j].aL[i]:=yN af.1;rw[az]at aa;have ah:=eE hi;have bz:nz t.ns (j,i,w)=1+gX (y8 t.ns) (t.ns[j].aL.drop i):=by simp[nz,tc an]
 have cT:nz t.ns (j,i+1,w)=1+gX (y8 t.ns) (t.ns[j].aL.drop (i+1)):=by simp[nz,tc an]
 rw[bz,cT,ah];simp only[gX,cY,oc];omega
def NL(an:j<t.ns.length)(hi:t.ns[j].aL.length<=i):uh ax t.ns (j,i,w)=om ax t.ns (j,i,w)++(jI t.ns[j]++(bif w then [41]else [])):=by simp only[uh,tc an,ji hi];rfl
def CX{d:Nat}{x:dn}(h:F d=x):fz F d x=F:=by
 funext t;unfold fz;cases e:Nat.beq t d with
 |false=>rfl| true=>have:=c6 e;subst this;exact h.symm
def afv{d:Nat}{x:Option (List Value)}(h:C d=x):iO C d x=C:=by
 funext t;unfold iO;cases e:Nat.beq t d with
 |false=>rfl| true=>have:=c6 e;subst this;exact h.symm
def CY:Code->Code
 | .scope c=>c
 | .seq a b=>match CY a with
  | .skip=>CY b| c=>c
 |_=>.skip
def Jq(c:Code)(l:Nat):Code:=(findLabel c l).getD .skip
def cp.yZ{b:Nat}{K:List aB->Prop}(bc post:List aB)(cs:Array Value)(T:Nat)(a1:M=bc++⟨b,.cells cs T (0,0)⟩::post)(ai:i+j+vs.length<=cs.size)(aa:fO vs=true)
  (h:K (bc++⟨b,.cells (bo cs.toList (i+j) vs).toArray T (0,0)⟩::post)):cp M (((⟨b,0,none⟩:Addr).add i).add j) vs K:=by
 rw[Go.V.yZ];refine cp.add bc post cs T a1 (by omega) aa ?_;rw[c0];exact h
structure e4(I:aZ)(ax:List Int):Prop where
 c:q0 I
 p:ND I
 s:FQ I
 d:r0 I ax
def NM(a b c:α)(L:List α):(a::b::(L++[c])).Perm ([b,c]++(a::L)):=
 (List.Perm.swap b a _).trans (((((UL c L).cons a)).trans (List.Perm.swap c a L)).cons b)
def NN(bc:List Value)(a b c z:Value)(bb:List Value):bo (bc++([a,b,c]++bb)) (bc.length+1) [z]=bc++([a,z,c]++bb):=by have:=UJ bc a b z (c::bb) _ rfl;exact this
def e4.mono(h:e4 I ax)(bA:∀ b o,I b=some o->I' b=some o):e4 I' ax:=by obtain⟨⟨NO,f1,aa⟩,⟨AO,f2,ab⟩,⟨afw,f3,ag⟩,⟨aW,bC,NP,f4,bP⟩⟩:=h;exact⟨⟨NO,f1,bA _ _ aa⟩,⟨AO,f2,bA _ _ ab⟩,⟨afw,f3,bA _ _ ag⟩,⟨aW,bC,NP,f4,bA _ _ bP⟩⟩
def py(aG:List Open):List Value:=aG.flatMap mR
def FT(aG:List Open):(py aG).length=aG.length*3:=fQ mR 3 (λ_=>rfl) aG
def AP(aG:List Open)(e:Open):py (aG++[e])=py aG++[.int .i64 e.1,.int .i64 e.2.1,.bool e.2.2]:=by simp[py,mR]
abbrev FU:=fU×a'×List Open×aZ
def U2(t:cB)(g:Nat)(x:FU):vj:={ bu:=[(1,.ref 1 0),(3,.val (ptr g)),(4,.val x.2.1.val)],cl:=[(1,t.cells)],cS:=x.2.2.2,db:=x.2.1.aP 347++x.1.M g }
structure Jr(dM:aZ)(ax:List Int)(t:cB)(x:FU):Prop where
 le:∀ b o,dM b=some o->x.2.2.2 b=some o
 ok:x.1.ok
 os:x.2.1.ok 3 (py x.2.2.1)
 ne:x.2.2.1≠[]
 asd:∀ e∈x.2.2.1,e.1<t.ns.length
 ase:x.1.cM++ui ax t.ns x.2.2.1=kw ax t.ns t.bD
 FV:vL t.ns x.2.2.1<=2*t.ns.length
def U3{dM:aZ}(bp:e4 dM ax)(ay:t.ok dM)(ak:right t=true)(aq:t.n<=1024){g:Nat}{p:Nat->Nat×FU->Prop}(x:FU)(ae:Jr dM ax t x)(aD:∀ y,Jr dM ax t y->vL t.ns y.2.2.1<vL t.ns x.2.2.1->p 0 (g,y))(B:Nat)(ar:World)(G:Fr)(oo:dp) :
  V ⟨Tryz.prog,hL,[3],Tryz.f244.ntmps,B,ar,dM,[],none⟩ (Jq (CY (Tryz.f244.body.getD .skip)) 0) (fz (fz (fz G 4 (.val x.2.1.val)) 3 (.val (ptr g))) 1 (.ref 1 0)) (iO oo 1 (some t.cells)) x.2.2.2 (x.2.1.aP 347++x.1.M g)
   (I4 (λl=>o2 [] (λy=>U2 t y.1 y.2) (p l)) (tU ⟨Tryz.prog,hL,[3],Tryz.f244.ntmps,B,ar,dM,[],none⟩ Tryz.f244.results.toList
    (λr I' M'=>r=.string (strOf (kw ax t.ns t.bD))/\(∀ b o,dM b=some o->I' b=some o)/\M'=[]))):=by
 obtain⟨x,⟨xu,n,eG,aK⟩,aG,cU⟩:=x;obtain⟨bs,FW,ca,bK,fK,nB,AQ⟩:=ae;simp only at bs FW ca bK fK nB AQ aD |-;have lU:=bp.mono bs;have td:=ay.mono bs;have mg:=ay.n;obtain⟨hA,⟨j,i,w⟩,rfl⟩:∃ hA e,aG=hA++[e]:=by
  rcases Fo aG with h | ⟨r,e,h⟩;·exact(bK h).elim
  ·exact⟨r,e,by simpa using h⟩
 have g6:hA.length+1=n:=by have aa:=ca.len;rw[FT]at aa;simp at aa;omega
 have an:j<t.ns.length:=fK (j,i,w) (by simp);have hW:j<t.n:=by omega
 cases xu with
 |none=>have:=(ca.nil rfl).1;simp only at this;omega| some cK=>
 obtain⟨eA,mj,kT,dz⟩:=ca.cap cK rfl;simp only at eA mj kT dz;have iA:(py hA).length=(n-1)*3:=by rw[FT];omega
 obtain⟨bb,lR⟩:∃ bb,aK=py hA++([.int .i64 j,.int .i64 i,.bool w]++bb):=by refine⟨aK.drop (n*3),?_⟩;have ab:=sV (n*3) aK;rw[dz,AP,fq]at ab;exact ab.symm
 have afx:aK[(n-1)*3+0]?=some (.int .i64 j):=by rw[lR,<-iA,o9 (by omega)];simp
 have r3:aK[(n-1)*3+1]?=some (.int .i64 i):=by rw[lR,<-iA,o9 (by omega)];simp
 have Js:aK[(n-1)*3+2]?=some (.bool w):=by rw[lR,<-iA,o9 (by omega)];simp
 have r4:=UU (ax:=ax) ak;have fD:x.cM.length<=2412*t.ns.length:=by have:=congrArg List.length nB;rw[cI]at this;omega
 have U4:=UX t.ns (hA++[(j,i,w)]);simp only[cI,ea,gV]at U4;have jk:=td.ns t.ns[j] (cJ an);have dS:=jk.kn;have nl:=FO (AH ak an);obtain⟨ad,bF,bk⟩:=td.a8.row aS.cD hW an;rw[AN]at nB;rw[r2]at AQ aD U4;have oq:IntKind.i64.wrap ((n:Int)-1)=((n-1:Nat):Int):=by rw[wrap_i64 ⟨by omega,by omega⟩];omega
 refine bd.mk (((n-1:Nat)):Int) oq ?_;refine bi.mk ⟨cK,0,none⟩ (n-1) rfl rfl (by show n-1<n;omega) ?_;refine c5.draw aV rfl rfl rfl ?_;refine aI.mk [.int .i64 j] (mP (b:=cK) (cs:=aK) (T:=347) (by simp[a'.aP]) afx) ?_;refine bi.mk ad j bF rfl hW ?_;refine aI.mk _ (bk _) ?_;refine b8.mk λb6 FX NQ=>?_;refine cp.mk [] (⟨cK,.cells aK.toArray 347 (0,0)⟩::x.M g) _ _ rfl rfl (bS rfl) rfl ?_;refine aI.mk [.int .i64 i] (mP (b:=cK) (cs:=aK) (T:=347) (by simp[a'.aP]) r3) ?_;refine aU.mk (λaa=>?_) (λaa=>?_)
 ·refine aI.mk [.bool w] (mP (b:=cK) (cs:=aK) (T:=347) (by simp[a'.aP]) Js) ?_;refine aU.mk (λab=>?_) (λab=>?_)
  ·refine a9.mk (x.M g) [⟨b6,.cells t.ns[j].cells.toArray 83 (0,0)⟩,⟨cK,.cells aK.toArray 347 (0,0)⟩] _ (hX (l₁:=[_,_])) (pk g FW 40 (by omega)) ?_;rintro v ev ez -⟨rfl,rfl,y,aF,hl,rfl⟩;have s8:y.cM.length<=2412*t.ns.length+1:=by rw[hl];simp;omega
   refine aI.mk _ (dO (T:=83) (b:=b6) (cs:=t.ns[j].cells) (k:=0) (n:=9) (by simp) (bS rfl)) ?_;refine a9.mk [] (y.M g++[⟨b6,.cells t.ns[j].cells.toArray 83 (0,0)⟩,⟨cK,.cells aK.toArray 347 (0,0)⟩]) _ (by simp) (UR lU.d lU.s jk nl) ?_;rintro v ev ez -⟨rfl,eM,rfl⟩;have hB:∀ b o,dM b=some o->ev b=some o:=λb o h=>eM _ _ (bs _ _ h);have CZ:=NH ax nl;refine a9.mk (y.M g) [⟨b6,.cells t.ns[j].cells.toArray 83 (0,0)⟩,⟨cK,.cells aK.toArray 347 (0,0)⟩] _ (by simp) (tZ g aF _ (by show _+(kv ax t.ns[j]).length<=_;omega)) ?_;rintro v hK rV -⟨rfl,rfl,u,hu,xr,rfl⟩;have r5:u.cM=x.cM++om ax t.ns (j,i,w):=by rw[xr,hl];simp only[om,aa,ab,tc an,bl,bh];simp[strOf]
   have UP:u.cM.length<=2412*t.ns.length+2401:=by rw[r5,cI];simp only[om,aa,ab,tc an,bl,bh,cI,ea,gV];omega
   have kY:=bp.mono hB;have nC:=ay.mono hB;have q7:=nC.ns t.ns[j] (cJ an);have y9:∀ {k m:Nat},k+m<=9->cr hK (u.M g++[⟨b6,.cells t.ns[j].cells.toArray 83 (0,0)⟩,⟨cK,.cells aK.toArray 347 (0,0)⟩]) ((⟨b6,0,none⟩:Addr).add k) m ((t.ns[j].cells.drop k).take m):=λh=>dO (T:=83) (by simp) h;refine c5.draw aV rfl rfl rfl ?_;refine aI.mk [.int .i64 i] (mP (b:=cK) (cs:=aK) (T:=347) (by simp[a'.aP]) r3) ?_;refine aI.mk _ (y9 (by decide)) ?_;refine aU.mk (λaf=>?_) (λaf=>?_)
   ·have fv:i<t.ns[j].kn:=by simpa using af
    have q8:i<t.ns[j].aL.length:=by omega
    obtain⟨fR,fS,e2⟩:=q7.a8.one fv q8;have hc:=mm ak j an _ (cJ q8);obtain⟨q,y'⟩:=h' hc.1;have fm:q<t.ns.length:=by omega
    have ot:q<t.n:=by omega
    obtain⟨q9,xw,xx⟩:=nC.a8.row aS.cD ot fm;have xy:∀ M,cr hK M ((q9.add (q*9)).add 0) 1 [.int .u8 t.ns[q].k]:=λM=>(xx M).part (k:=0) (m:=1) (by decide);have uj:kW t.ns ((q:Nat):Int)=t.ns[q].k:=by simp[kW,cC,fm]
    have iB:=NJ (ax:=ax) ak an (w:=w) q8;have za:=NK ak an (w:=w) (w':=g1 t.ns[j].k t.ns[q].k) q8;rw[y']at iB za;simp only[CQ,qK]at iB za;rw[uj]at iB;have fu:IntKind.i64.wrap ((i:Int)+1)=((i+1:Nat):Int):=by have:=q7.a8.cap;rw[wrap_i64 ⟨by omega,by omega⟩];omega
    have ch:bo aK ((n-1)*3+1) [.int .i64 ((i+1:Nat):Int)]=py hA++([.int .i64 j,.int .i64 ((i+1:Nat):Int),.bool w]++bb):=by rw[lR,<-iA];exact NN _ _ _ _ _ _
    have FY:a'.ok ⟨some cK,n,eG,bo aK ((n-1)*3+1) [.int .i64 ((i+1:Nat):Int)]⟩ 3 (py (hA++[(j,i+1,w)])):=by
     rw[ch,AP];refine⟨by simp only[cI,ea,gV];omega,(λh=>by cases h),λbI _=>⟨?_,mj,kT,?_⟩⟩;·simp only;rw[<-eA,lR];simp
     ·simp only;rw[<-fq];refine p5 ?_;simp only[cI,ea,gV];omega
    refine aI.mk [.int .i64 i] (mP (b:=cK) (cs:=aK) (T:=347) (by simp[a'.aP]) r3) ?_;refine aU.mk (λbf=>by simp at aa bf;omega) (λbf=>?_);refine c5.draw aV rfl rfl rfl ?_;refine aI.mk _ (dO (T:=83) (b:=b6) (cs:=t.ns[j].cells) (k:=8) (n:=1) (by simp) (bS rfl)) ?_;refine aI.mk [.int .i64 i] (mP (b:=cK) (cs:=aK) (T:=347) (by simp[a'.aP]) r3) ?_;refine bi.mk fR i fS rfl fv ?_;refine aI.mk [.int .i64 (q:Nat)] (by have fe:=e2;rw[y']at fe;exact fe _) ?_;refine aI.mk [.int .i64 i] (mP (b:=cK) (cs:=aK) (T:=347) (by simp[a'.aP]) r3) ?_;refine bd.mk ((i+1:Nat):Int) fu ?_;refine cp.yZ (u.M g++[⟨b6,.cells t.ns[j].cells.toArray 83 (0,0)⟩]) [] aK.toArray 347 (by simp[a'.aP]) ?_ rfl ?_;·simp only[mE];show(n-1)*3+1+1<=_;omega
    refine c5.draw aV rfl rfl rfl ?_;refine aI.mk [.int .u8 t.ns[j].k] (dO (T:=83) (b:=b6) (cs:=t.ns[j].cells) (k:=0) (n:=1) (by simp) (bS rfl)) ?_;refine bi.mk q9 q xw rfl ot ?_;refine aI.mk [.int .u8 t.ns[q].k] (xy _) ?_;refine hf.mk _ (Nr t.ns[j].k t.ns[q].k) ?_;rintro v zb rX -⟨rfl,rfl,rfl⟩;refine b8.mk λbW gJ te=>?_;refine bn.append aV rfl (by simp) (e:=347) rfl rfl rfl ⟨some cK,n,eG,bo aK ((n-1)*3+1) [.int .i64 ((i+1:Nat):Int)]⟩ (xs:=py (hA++[(j,i+1,w)])) FY rfl (m:=1) rfl (bV:=mR (q,0,g1 t.ns[j].k t.ns[q].k)) (by decide) (dO (b:=bW) (cs:=mR (q,0,g1 t.ns[j].k t.ns[q].k)) (k:=0) (n:=3) (T:=347) (.head _) (bS rfl)) rfl (Mr:=⟨bW,.cells (mR (q,0,g1 t.ns[j].k t.ns[q].k)).toArray 347 (0,0)⟩::(u.M g++[⟨b6,.cells t.ns[j].cells.toArray 83 (0,0)⟩])) (by exact hX (l₁:=(⟨bW,.cells (mR (q,0,g1 t.ns[j].k t.ns[q].k)).toArray 347 (0,0)⟩:aB)::(u.M g++[⟨b6,.cells t.ns[j].cells.toArray 83 (0,0)⟩])) (l₂:=[⟨cK,.cells (bo aK ((n-1)*3+1) [.int .i64 ((i+1:Nat):Int)]).toArray 347 (0,0)⟩])) (by show n+1<=_;simp only[maxLen];omega) (by show(n+1)*24<=_;omega) ?_;intro dv c' hN ej ed fJ gI;refine⟨(g,u,⟨some dv,n+1,c',hN⟩,hA++[(j,i+1,w)]++[(q,0,g1 t.ns[j].k t.ns[q].k)],_),aD _ ⟨hB,hu,⟨?_,(λh=>by cases h),λbI _=>⟨ej,ed,fJ,?_⟩⟩,by simp,?_,?_,?_⟩ ?_,.perm (M1:=[⟨bW,.cells (mR (q,0,g1 t.ns[j].k t.ns[q].k)).toArray 347 (0,0)⟩,⟨b6,.cells t.ns[j].cells.toArray 83 (0,0)⟩]++(⟨dv,.cells hN.toArray 347 (0,0)⟩::u.M g)) (NM _ _ _ _) (.sub (jY _ _) .refl),fH,.cons rfl .nil⟩;·show _=(n+1)*3;rw[FT];simp;omega
    ·show hN.take ((n+1)*3)=_;rw[AP (hA++[(j,i+1,w)])];exact gI
    ·intro e he;simp only[dQ,fW]at he;rcases he with(he | rfl) | rfl
     ·exact fK e (by simp[he])
     ·exact an
     ·exact fm
    ·simp only;rw[AN,AN,r5,<-nB,iB];rw[show decide (0<(i:Int))=false from bf];simp
    ·simp only;rw[r2,r2];omega
    ·simp only;rw[r2,r2];omega
   ·have fv:t.ns[j].aL.length<=i:=by simp at af;omega
    have iB:=NL (ax:=ax) an (w:=w) fv;have oe:=Jo t.ns[j];refine aI.mk _ (dO (T:=83) (b:=b6) (cs:=t.ns[j].cells) (k:=0) (n:=9) (by simp) (bS rfl)) ?_;refine a9.mk [] (u.M g++[⟨b6,.cells t.ns[j].cells.toArray 83 (0,0)⟩,⟨cK,.cells aK.toArray 347 (0,0)⟩]) _ (.refl _) (NE kY.c kY.p kY.s q7 nl) ?_;rintro v zb rX -⟨rfl,rfl,rfl⟩;refine a9.mk (u.M g) [⟨b6,.cells t.ns[j].cells.toArray 83 (0,0)⟩,⟨cK,.cells aK.toArray 347 (0,0)⟩] _ (by simp) (tZ g hu _ (by show _+(jI t.ns[j]).length<=_;omega)) ?_;rintro v C0 U5 -⟨rfl,rfl,a,aC,jJ,rfl⟩;have U6:a.cM.length<=2412*t.ns.length+2410:=by rw[jJ,cI];show _+(jI t.ns[j]).length<=_;omega
    refine aI.mk [.bool w] (mP (b:=cK) (cs:=aK) (T:=347) (by simp[a'.aP]) Js) ?_;refine aU.mk (λhw=>?_) (λhw=>?_)
    ·subst hw;refine a9.mk (a.M g) [⟨b6,.cells t.ns[j].cells.toArray 83 (0,0)⟩,⟨cK,.cells aK.toArray 347 (0,0)⟩] _ (by simp) (pk g aC 41 (by omega)) ?_;rintro v Jt U7 -⟨rfl,rfl,c,aA,jg,rfl⟩;refine bd.mk (((n-1:Nat)):Int) oq ?_;refine ik.mk 0 (n-1) rfl rfl (bw _) (by show n-1<=eG;omega) ?_;refine aU.mk (λbf=>?_) (λbf=>?_)
     ·have g5:0<n-1:=by simp at bf;omega
      refine⟨(g,c,⟨some cK,n-1,eG,aK⟩,hA,_),aD _ ⟨hB,aA,⟨?_,(λh=>by cases h),λbI _=>⟨eA,by show n-1<=eG;omega,kT,?_⟩⟩,?_,λe he=>fK e (by simp[he]),?_,?_⟩ ?_,.perm (M1:=[⟨b6,.cells t.ns[j].cells.toArray 83 (0,0)⟩]++(⟨cK,.cells aK.toArray 347 (0,0)⟩::c.M g)) (hX (l₂:=[_,_])) (.sub (jY _ _) .refl),fH,.cons rfl .nil⟩;·exact iA
      ·show aK.take ((n-1)*3)=_;rw[lR,<-iA];exact p5 rfl
      ·intro h;simp only at h;rw[h]at g6;simp at g6;omega
      ·simp only;rw[jg,jJ,r5,<-nB,iB];simp[strOf]
      ·simp only;omega
      ·simp only[nz];omega
     ·have g5:n-1=0:=by simp at bf;omega
      have uk:hA=[]:=jh (by omega);have ou:c.cM=kw ax t.ns t.bD:=by rw[jg,jJ,r5,<-nB,iB,uk];simp[ui,strOf]
      refine a9.mk (c.M g) [⟨b6,.cells t.ns[j].cells.toArray 83 (0,0)⟩,⟨cK,.cells aK.toArray 347 (0,0)⟩] _ (by simp) (xq g aA (by rw[ou];omega)) ?_;rintro v xz FZ -⟨rfl,rfl,rfl⟩;refine⟨_,_,.sub (fZ _) .refl,?_,hB,rfl⟩;rw[ou];rfl
    ·subst hw;refine bd.mk (((n-1:Nat)):Int) oq ?_;refine ik.mk 0 (n-1) rfl rfl (bw _) (by show n-1<=eG;omega) ?_;refine aU.mk (λbf=>?_) (λbf=>?_)
     ·have g5:0<n-1:=by simp at bf;omega
      refine⟨(g,a,⟨some cK,n-1,eG,aK⟩,hA,_),aD _ ⟨hB,aC,⟨?_,(λh=>by cases h),λbI _=>⟨eA,by show n-1<=eG;omega,kT,?_⟩⟩,?_,λe he=>fK e (by simp[he]),?_,?_⟩ ?_,.perm (M1:=[⟨b6,.cells t.ns[j].cells.toArray 83 (0,0)⟩]++(⟨cK,.cells aK.toArray 347 (0,0)⟩::a.M g)) (hX (l₂:=[_,_])) (.sub (jY _ _) .refl),fH,.cons rfl .nil⟩;·exact iA
      ·show aK.take ((n-1)*3)=_;rw[lR,<-iA];exact p5 rfl
      ·intro h;simp only at h;rw[h]at g6;simp at g6;omega
      ·simp only;rw[jJ,r5,<-nB,iB];simp[strOf]
      ·simp only;omega
      ·simp only[nz];omega
     ·have g5:n-1=0:=by simp at bf;omega
      have uk:hA=[]:=jh (by omega);have ou:a.cM=kw ax t.ns t.bD:=by rw[jJ,r5,<-nB,iB,uk];simp[ui,strOf]
      refine a9.mk (a.M g) [⟨b6,.cells t.ns[j].cells.toArray 83 (0,0)⟩,⟨cK,.cells aK.toArray 347 (0,0)⟩] _ (by simp) (xq g aC (by rw[ou];omega)) ?_;rintro v xz FZ -⟨rfl,rfl,rfl⟩;refine⟨_,_,.sub (fZ _) .refl,?_,hB,rfl⟩;rw[ou];rfl
  ·refine aI.mk _ (dO (T:=83) (b:=b6) (cs:=t.ns[j].cells) (k:=0) (n:=9) (.head _) (bS rfl)) ?_;refine a9.mk [] (⟨b6,.cells t.ns[j].cells.toArray 83 (0,0)⟩::⟨cK,.cells aK.toArray 347 (0,0)⟩::x.M g) _ (.refl _) (UR lU.d lU.s jk nl) ?_;rintro v ev ez -⟨rfl,eM,rfl⟩;have hB:∀ b o,dM b=some o->ev b=some o:=λb o h=>eM _ _ (bs _ _ h);have CZ:=NH ax nl;refine a9.mk (x.M g) [⟨b6,.cells t.ns[j].cells.toArray 83 (0,0)⟩,⟨cK,.cells aK.toArray 347 (0,0)⟩] _ (hX (l₁:=[_,_])) (tZ g FW _ (by show _+(kv ax t.ns[j]).length<=_;omega)) ?_;rintro v hK rV -⟨rfl,rfl,u,hu,xr,rfl⟩;have r5:u.cM=x.cM++om ax t.ns (j,i,w):=by rw[xr];simp only[om,aa,ab,tc an,bl,bh];simp[strOf]
   have UP:u.cM.length<=2412*t.ns.length+2401:=by rw[r5,cI];simp only[om,aa,ab,tc an,bl,bh,cI,ea,gV];omega
   have kY:=bp.mono hB;have nC:=ay.mono hB;have q7:=nC.ns t.ns[j] (cJ an);have y9:∀ {k m:Nat},k+m<=9->cr hK (u.M g++[⟨b6,.cells t.ns[j].cells.toArray 83 (0,0)⟩,⟨cK,.cells aK.toArray 347 (0,0)⟩]) ((⟨b6,0,none⟩:Addr).add k) m ((t.ns[j].cells.drop k).take m):=λh=>dO (T:=83) (by simp) h;refine c5.draw aV rfl rfl rfl ?_;refine aI.mk [.int .i64 i] (mP (b:=cK) (cs:=aK) (T:=347) (by simp[a'.aP]) r3) ?_;refine aI.mk _ (y9 (by decide)) ?_;refine aU.mk (λaf=>?_) (λaf=>?_)
   ·have fv:i<t.ns[j].kn:=by simpa using af
    have q8:i<t.ns[j].aL.length:=by omega
    obtain⟨fR,fS,e2⟩:=q7.a8.one fv q8;have hc:=mm ak j an _ (cJ q8);obtain⟨q,y'⟩:=h' hc.1;have fm:q<t.ns.length:=by omega
    have ot:q<t.n:=by omega
    obtain⟨q9,xw,xx⟩:=nC.a8.row aS.cD ot fm;have xy:∀ M,cr hK M ((q9.add (q*9)).add 0) 1 [.int .u8 t.ns[q].k]:=λM=>(xx M).part (k:=0) (m:=1) (by decide);have uj:kW t.ns ((q:Nat):Int)=t.ns[q].k:=by simp[kW,cC,fm]
    have iB:=NJ (ax:=ax) ak an (w:=w) q8;have za:=NK ak an (w:=w) (w':=g1 t.ns[j].k t.ns[q].k) q8;rw[y']at iB za;simp only[CQ,qK]at iB za;rw[uj]at iB;have fu:IntKind.i64.wrap ((i:Int)+1)=((i+1:Nat):Int):=by have:=q7.a8.cap;rw[wrap_i64 ⟨by omega,by omega⟩];omega
    have ch:bo aK ((n-1)*3+1) [.int .i64 ((i+1:Nat):Int)]=py hA++([.int .i64 j,.int .i64 ((i+1:Nat):Int),.bool w]++bb):=by rw[lR,<-iA];exact NN _ _ _ _ _ _
    have FY:a'.ok ⟨some cK,n,eG,bo aK ((n-1)*3+1) [.int .i64 ((i+1:Nat):Int)]⟩ 3 (py (hA++[(j,i+1,w)])):=by
     rw[ch,AP];refine⟨by simp only[cI,ea,gV];omega,(λh=>by cases h),λbI _=>⟨?_,mj,kT,?_⟩⟩;·simp only;rw[<-eA,lR];simp
     ·simp only;rw[<-fq];refine p5 ?_;simp only[cI,ea,gV];omega
    refine aI.mk [.int .i64 i] (mP (b:=cK) (cs:=aK) (T:=347) (by simp[a'.aP]) r3) ?_;refine aU.mk (λbf=>by simp at aa bf;omega) (λbf=>?_);refine c5.draw aV rfl rfl rfl ?_;refine aI.mk _ (dO (T:=83) (b:=b6) (cs:=t.ns[j].cells) (k:=8) (n:=1) (by simp) (bS rfl)) ?_;refine aI.mk [.int .i64 i] (mP (b:=cK) (cs:=aK) (T:=347) (by simp[a'.aP]) r3) ?_;refine bi.mk fR i fS rfl fv ?_;refine aI.mk [.int .i64 (q:Nat)] (by have fe:=e2;rw[y']at fe;exact fe _) ?_;refine aI.mk [.int .i64 i] (mP (b:=cK) (cs:=aK) (T:=347) (by simp[a'.aP]) r3) ?_;refine bd.mk ((i+1:Nat):Int) fu ?_;refine cp.yZ (u.M g++[⟨b6,.cells t.ns[j].cells.toArray 83 (0,0)⟩]) [] aK.toArray 347 (by simp[a'.aP]) ?_ rfl ?_;·simp only[mE];show(n-1)*3+1+1<=_;omega
    refine c5.draw aV rfl rfl rfl ?_;refine aI.mk [.int .u8 t.ns[j].k] (dO (T:=83) (b:=b6) (cs:=t.ns[j].cells) (k:=0) (n:=1) (by simp) (bS rfl)) ?_;refine bi.mk q9 q xw rfl ot ?_;refine aI.mk [.int .u8 t.ns[q].k] (xy _) ?_;refine hf.mk _ (Nr t.ns[j].k t.ns[q].k) ?_;rintro v zb rX -⟨rfl,rfl,rfl⟩;refine b8.mk λbW gJ te=>?_;refine bn.append aV rfl (by simp) (e:=347) rfl rfl rfl ⟨some cK,n,eG,bo aK ((n-1)*3+1) [.int .i64 ((i+1:Nat):Int)]⟩ (xs:=py (hA++[(j,i+1,w)])) FY rfl (m:=1) rfl (bV:=mR (q,0,g1 t.ns[j].k t.ns[q].k)) (by decide) (dO (b:=bW) (cs:=mR (q,0,g1 t.ns[j].k t.ns[q].k)) (k:=0) (n:=3) (T:=347) (.head _) (bS rfl)) rfl (Mr:=⟨bW,.cells (mR (q,0,g1 t.ns[j].k t.ns[q].k)).toArray 347 (0,0)⟩::(u.M g++[⟨b6,.cells t.ns[j].cells.toArray 83 (0,0)⟩])) (by exact hX (l₁:=(⟨bW,.cells (mR (q,0,g1 t.ns[j].k t.ns[q].k)).toArray 347 (0,0)⟩:aB)::(u.M g++[⟨b6,.cells t.ns[j].cells.toArray 83 (0,0)⟩])) (l₂:=[⟨cK,.cells (bo aK ((n-1)*3+1) [.int .i64 ((i+1:Nat):Int)]).toArray 347 (0,0)⟩])) (by show n+1<=_;simp only[maxLen];omega) (by show(n+1)*24<=_;omega) ?_;intro dv c' hN ej ed fJ gI;refine⟨(g,u,⟨some dv,n+1,c',hN⟩,hA++[(j,i+1,w)]++[(q,0,g1 t.ns[j].k t.ns[q].k)],_),aD _ ⟨hB,hu,⟨?_,(λh=>by cases h),λbI _=>⟨ej,ed,fJ,?_⟩⟩,by simp,?_,?_,?_⟩ ?_,.perm (M1:=[⟨bW,.cells (mR (q,0,g1 t.ns[j].k t.ns[q].k)).toArray 347 (0,0)⟩,⟨b6,.cells t.ns[j].cells.toArray 83 (0,0)⟩]++(⟨dv,.cells hN.toArray 347 (0,0)⟩::u.M g)) (NM _ _ _ _) (.sub (jY _ _) .refl),fH,.cons rfl .nil⟩;·show _=(n+1)*3;rw[FT];simp;omega
    ·show hN.take ((n+1)*3)=_;rw[AP (hA++[(j,i+1,w)])];exact gI
    ·intro e he;simp only[dQ,fW]at he;rcases he with(he | rfl) | rfl
     ·exact fK e (by simp[he])
     ·exact an
     ·exact fm
    ·simp only;rw[AN,AN,r5,<-nB,iB];rw[show decide (0<(i:Int))=false from bf];simp
    ·simp only;rw[r2,r2];omega
    ·simp only;rw[r2,r2];omega
   ·have fv:t.ns[j].aL.length<=i:=by simp at af;omega
    have iB:=NL (ax:=ax) an (w:=w) fv;have oe:=Jo t.ns[j];refine aI.mk _ (dO (T:=83) (b:=b6) (cs:=t.ns[j].cells) (k:=0) (n:=9) (by simp) (bS rfl)) ?_;refine a9.mk [] (u.M g++[⟨b6,.cells t.ns[j].cells.toArray 83 (0,0)⟩,⟨cK,.cells aK.toArray 347 (0,0)⟩]) _ (.refl _) (NE kY.c kY.p kY.s q7 nl) ?_;rintro v zb rX -⟨rfl,rfl,rfl⟩;refine a9.mk (u.M g) [⟨b6,.cells t.ns[j].cells.toArray 83 (0,0)⟩,⟨cK,.cells aK.toArray 347 (0,0)⟩] _ (by simp) (tZ g hu _ (by show _+(jI t.ns[j]).length<=_;omega)) ?_;rintro v C0 U5 -⟨rfl,rfl,a,aC,jJ,rfl⟩;have U6:a.cM.length<=2412*t.ns.length+2410:=by rw[jJ,cI];show _+(jI t.ns[j]).length<=_;omega
    refine aI.mk [.bool w] (mP (b:=cK) (cs:=aK) (T:=347) (by simp[a'.aP]) Js) ?_;refine aU.mk (λhw=>?_) (λhw=>?_)
    ·subst hw;refine a9.mk (a.M g) [⟨b6,.cells t.ns[j].cells.toArray 83 (0,0)⟩,⟨cK,.cells aK.toArray 347 (0,0)⟩] _ (by simp) (pk g aC 41 (by omega)) ?_;rintro v Jt U7 -⟨rfl,rfl,c,aA,jg,rfl⟩;refine bd.mk (((n-1:Nat)):Int) oq ?_;refine ik.mk 0 (n-1) rfl rfl (bw _) (by show n-1<=eG;omega) ?_;refine aU.mk (λbf=>?_) (λbf=>?_)
     ·have g5:0<n-1:=by simp at bf;omega
      refine⟨(g,c,⟨some cK,n-1,eG,aK⟩,hA,_),aD _ ⟨hB,aA,⟨?_,(λh=>by cases h),λbI _=>⟨eA,by show n-1<=eG;omega,kT,?_⟩⟩,?_,λe he=>fK e (by simp[he]),?_,?_⟩ ?_,.perm (M1:=[⟨b6,.cells t.ns[j].cells.toArray 83 (0,0)⟩]++(⟨cK,.cells aK.toArray 347 (0,0)⟩::c.M g)) (hX (l₂:=[_,_])) (.sub (jY _ _) .refl),fH,.cons rfl .nil⟩;·exact iA
      ·show aK.take ((n-1)*3)=_;rw[lR,<-iA];exact p5 rfl
      ·intro h;simp only at h;rw[h]at g6;simp at g6;omega
      ·simp only;rw[jg,jJ,r5,<-nB,iB];simp[strOf]
      ·simp only;omega
      ·simp only[nz];omega
     ·have g5:n-1=0:=by simp at bf;omega
      have uk:hA=[]:=jh (by omega);have ou:c.cM=kw ax t.ns t.bD:=by rw[jg,jJ,r5,<-nB,iB,uk];simp[ui,strOf]
      refine a9.mk (c.M g) [⟨b6,.cells t.ns[j].cells.toArray 83 (0,0)⟩,⟨cK,.cells aK.toArray 347 (0,0)⟩] _ (by simp) (xq g aA (by rw[ou];omega)) ?_;rintro v xz FZ -⟨rfl,rfl,rfl⟩;refine⟨_,_,.sub (fZ _) .refl,?_,hB,rfl⟩;rw[ou];rfl
    ·subst hw;refine bd.mk (((n-1:Nat)):Int) oq ?_;refine ik.mk 0 (n-1) rfl rfl (bw _) (by show n-1<=eG;omega) ?_;refine aU.mk (λbf=>?_) (λbf=>?_)
     ·have g5:0<n-1:=by simp at bf;omega
      refine⟨(g,a,⟨some cK,n-1,eG,aK⟩,hA,_),aD _ ⟨hB,aC,⟨?_,(λh=>by cases h),λbI _=>⟨eA,by show n-1<=eG;omega,kT,?_⟩⟩,?_,λe he=>fK e (by simp[he]),?_,?_⟩ ?_,.perm (M1:=[⟨b6,.cells t.ns[j].cells.toArray 83 (0,0)⟩]++(⟨cK,.cells aK.toArray 347 (0,0)⟩::a.M g)) (hX (l₂:=[_,_])) (.sub (jY _ _) .refl),fH,.cons rfl .nil⟩;·exact iA
      ·show aK.take ((n-1)*3)=_;rw[lR,<-iA];exact p5 rfl
      ·intro h;simp only at h;rw[h]at g6;simp at g6;omega
      ·simp only;rw[jJ,r5,<-nB,iB];simp[strOf]
      ·simp only;omega
      ·simp only[nz];omega
     ·have g5:n-1=0:=by simp at bf;omega
      have uk:hA=[]:=jh (by omega);have ou:a.cM=kw ax t.ns t.bD:=by rw[jJ,r5,<-nB,iB,uk];simp[ui,strOf]
      refine a9.mk (a.M g) [⟨b6,.cells t.ns[j].cells.toArray 83 (0,0)⟩,⟨cK,.cells aK.toArray 347 (0,0)⟩] _ (by simp) (xq g aC (by rw[ou];omega)) ?_;rintro v xz FZ -⟨rfl,rfl,rfl⟩;refine⟨_,_,.sub (fZ _) .refl,?_,hB,rfl⟩;rw[ou];rfl
 ·have asf:x.cM=x.cM++om ax t.ns (j,i,w):=by simp only[om,aa,bh,eh]
  have kY:=bp.mono bs;have nC:=ay.mono bs;have q7:=nC.ns t.ns[j] (cJ an);have y9:∀ {k m:Nat},k+m<=9->cr cU (⟨b6,.cells t.ns[j].cells.toArray 83 (0,0)⟩::⟨cK,.cells aK.toArray 347 (0,0)⟩::x.M g) ((⟨b6,0,none⟩:Addr).add k) m ((t.ns[j].cells.drop k).take m):=λh=>dO (T:=83) (by simp) h;refine c5.draw aV rfl rfl rfl ?_;refine aI.mk [.int .i64 i] (mP (b:=cK) (cs:=aK) (T:=347) (by simp[a'.aP]) r3) ?_;refine aI.mk _ (y9 (by decide)) ?_;refine aU.mk (λaf=>?_) (λaf=>?_)
  ·have fv:i<t.ns[j].kn:=by simpa using af
   have q8:i<t.ns[j].aL.length:=by omega
   obtain⟨fR,fS,e2⟩:=q7.a8.one fv q8;have hc:=mm ak j an _ (cJ q8);obtain⟨q,y'⟩:=h' hc.1;have fm:q<t.ns.length:=by omega
   have ot:q<t.n:=by omega
   obtain⟨q9,xw,xx⟩:=nC.a8.row aS.cD ot fm;have xy:∀ M,cr cU M ((q9.add (q*9)).add 0) 1 [.int .u8 t.ns[q].k]:=λM=>(xx M).part (k:=0) (m:=1) (by decide);have uj:kW t.ns ((q:Nat):Int)=t.ns[q].k:=by simp[kW,cC,fm]
   have iB:=NJ (ax:=ax) ak an (w:=w) q8;have za:=NK ak an (w:=w) (w':=g1 t.ns[j].k t.ns[q].k) q8;rw[y']at iB za;simp only[CQ,qK]at iB za;rw[uj]at iB;have fu:IntKind.i64.wrap ((i:Int)+1)=((i+1:Nat):Int):=by have:=q7.a8.cap;rw[wrap_i64 ⟨by omega,by omega⟩];omega
   have ch:bo aK ((n-1)*3+1) [.int .i64 ((i+1:Nat):Int)]=py hA++([.int .i64 j,.int .i64 ((i+1:Nat):Int),.bool w]++bb):=by rw[lR,<-iA];exact NN _ _ _ _ _ _
   have FY:a'.ok ⟨some cK,n,eG,bo aK ((n-1)*3+1) [.int .i64 ((i+1:Nat):Int)]⟩ 3 (py (hA++[(j,i+1,w)])):=by
    rw[ch,AP];refine⟨by simp only[cI,ea,gV];omega,(λh=>by cases h),λbI _=>⟨?_,mj,kT,?_⟩⟩;·simp only;rw[<-eA,lR];simp
    ·simp only;rw[<-fq];refine p5 ?_;simp only[cI,ea,gV];omega
   refine aI.mk [.int .i64 i] (mP (b:=cK) (cs:=aK) (T:=347) (by simp[a'.aP]) r3) ?_;refine aU.mk (λbf=>?_) (λbf=>by simp at aa bf;omega);refine aI.mk [.int .u8 t.ns[j].k] (dO (T:=83) (b:=b6) (cs:=t.ns[j].cells) (k:=0) (n:=1) (.head _) (bS rfl)) ?_;refine dV.mk t.ns[j].k.toNat (by have:=q7.k;omega) (by have:=nl.k;have:=q7.k;omega) ?_;refine aI.mk _ (kY.s.rd _ (by have:=nl.k;have:=q7.k;show t.ns[j].k.toNat*3+1<30;omega)) ?_;refine a9.mk (x.M g) [⟨b6,.cells t.ns[j].cells.toArray 83 (0,0)⟩,⟨cK,.cells aK.toArray 347 (0,0)⟩] _ (hX (l₁:=[_,_])) (tZ g FW _ (by have:=FR (t.ns[j].k.toNat*3+1);show _+(h1 (t.ns[j].k.toNat*3+1)).length<=_;omega)) ?_;rintro v mL rW -⟨rfl,rfl,z,afy,afz,rfl⟩;have s7:z.cM=x.cM++px t.ns[j]:=afz;refine c5.draw aV rfl rfl rfl ?_;refine aI.mk _ (dO (T:=83) (b:=b6) (cs:=t.ns[j].cells) (k:=8) (n:=1) (by simp) (bS rfl)) ?_;refine aI.mk [.int .i64 i] (mP (b:=cK) (cs:=aK) (T:=347) (by simp[a'.aP]) r3) ?_;refine bi.mk fR i fS rfl fv ?_;refine aI.mk [.int .i64 (q:Nat)] (by have fe:=e2;rw[y']at fe;exact fe _) ?_;refine aI.mk [.int .i64 i] (mP (b:=cK) (cs:=aK) (T:=347) (by simp[a'.aP]) r3) ?_;refine bd.mk ((i+1:Nat):Int) fu ?_;refine cp.yZ (z.M g++[⟨b6,.cells t.ns[j].cells.toArray 83 (0,0)⟩]) [] aK.toArray 347 (by simp[a'.aP]) ?_ rfl ?_;·simp only[mE];show(n-1)*3+1+1<=_;omega
   refine c5.draw aV rfl rfl rfl ?_;refine aI.mk [.int .u8 t.ns[j].k] (dO (T:=83) (b:=b6) (cs:=t.ns[j].cells) (k:=0) (n:=1) (by simp) (bS rfl)) ?_;refine bi.mk q9 q xw rfl ot ?_;refine aI.mk [.int .u8 t.ns[q].k] (xy _) ?_;refine hf.mk _ (Nr t.ns[j].k t.ns[q].k) ?_;rintro v zb rX -⟨rfl,rfl,rfl⟩;refine b8.mk λbW gJ te=>?_;refine bn.append aV rfl (by simp) (e:=347) rfl rfl rfl ⟨some cK,n,eG,bo aK ((n-1)*3+1) [.int .i64 ((i+1:Nat):Int)]⟩ (xs:=py (hA++[(j,i+1,w)])) FY rfl (m:=1) rfl (bV:=mR (q,0,g1 t.ns[j].k t.ns[q].k)) (by decide) (dO (b:=bW) (cs:=mR (q,0,g1 t.ns[j].k t.ns[q].k)) (k:=0) (n:=3) (T:=347) (.head _) (bS rfl)) rfl (Mr:=⟨bW,.cells (mR (q,0,g1 t.ns[j].k t.ns[q].k)).toArray 347 (0,0)⟩::(z.M g++[⟨b6,.cells t.ns[j].cells.toArray 83 (0,0)⟩])) (by exact hX (l₁:=(⟨bW,.cells (mR (q,0,g1 t.ns[j].k t.ns[q].k)).toArray 347 (0,0)⟩:aB)::(z.M g++[⟨b6,.cells t.ns[j].cells.toArray 83 (0,0)⟩])) (l₂:=[⟨cK,.cells (bo aK ((n-1)*3+1) [.int .i64 ((i+1:Nat):Int)]).toArray 347 (0,0)⟩])) (by show n+1<=_;simp only[maxLen];omega) (by show(n+1)*24<=_;omega) ?_;intro dv c' hN ej ed fJ gI;refine⟨(g,z,⟨some dv,n+1,c',hN⟩,hA++[(j,i+1,w)]++[(q,0,g1 t.ns[j].k t.ns[q].k)],_),aD _ ⟨bs,afy,⟨?_,(λh=>by cases h),λbI _=>⟨ej,ed,fJ,?_⟩⟩,by simp,?_,?_,?_⟩ ?_,.perm (M1:=[⟨bW,.cells (mR (q,0,g1 t.ns[j].k t.ns[q].k)).toArray 347 (0,0)⟩,⟨b6,.cells t.ns[j].cells.toArray 83 (0,0)⟩]++(⟨dv,.cells hN.toArray 347 (0,0)⟩::z.M g)) (NM _ _ _ _) (.sub (jY _ _) .refl),fH,.cons rfl .nil⟩;·show _=(n+1)*3;rw[FT];simp;omega
   ·show hN.take ((n+1)*3)=_;rw[AP (hA++[(j,i+1,w)])];exact gI
   ·intro e he;simp only[dQ,fW]at he;rcases he with(he | rfl) | rfl
    ·exact fK e (by simp[he])
    ·exact an
    ·exact fm
   ·simp only;rw[AN,AN,s7,<-nB,iB];rw[show decide (0<(i:Int))=true from bf,show om ax t.ns (j,i,w)=[]from by simp only[om,aa,bh]];simp
   ·simp only;rw[r2,r2];omega
   ·simp only;rw[r2,r2];omega
  ·have fv:t.ns[j].aL.length<=i:=by simp at af;omega
   have afA:=NL (ax:=ax) an (w:=w) fv;have iB:uh ax t.ns (j,i,w)=jI t.ns[j]++(bif w then [41]else []):=by rw[afA];simp only[om,aa,bh,jZ]
   have oe:=Jo t.ns[j];refine aI.mk _ (dO (T:=83) (b:=b6) (cs:=t.ns[j].cells) (k:=0) (n:=9) (.head _) (bS rfl)) ?_;refine a9.mk [] (⟨b6,.cells t.ns[j].cells.toArray 83 (0,0)⟩::⟨cK,.cells aK.toArray 347 (0,0)⟩::x.M g) _ (.refl _) (NE kY.c kY.p kY.s q7 nl) ?_;rintro v zb rX -⟨rfl,rfl,rfl⟩;refine a9.mk (x.M g) [⟨b6,.cells t.ns[j].cells.toArray 83 (0,0)⟩,⟨cK,.cells aK.toArray 347 (0,0)⟩] _ (hX (l₁:=[_,_])) (tZ g FW _ (by show _+(jI t.ns[j]).length<=_;omega)) ?_;rintro v C0 U5 -⟨rfl,rfl,a,aC,jJ,rfl⟩;have U6:a.cM.length<=2412*t.ns.length+2410:=by rw[jJ,cI];show _+(jI t.ns[j]).length<=_;omega
   refine aI.mk [.bool w] (mP (b:=cK) (cs:=aK) (T:=347) (by simp[a'.aP]) Js) ?_;refine aU.mk (λhw=>?_) (λhw=>?_)
   ·subst hw;refine a9.mk (a.M g) [⟨b6,.cells t.ns[j].cells.toArray 83 (0,0)⟩,⟨cK,.cells aK.toArray 347 (0,0)⟩] _ (by simp) (pk g aC 41 (by omega)) ?_;rintro v Jt U7 -⟨rfl,rfl,c,aA,jg,rfl⟩;refine bd.mk (((n-1:Nat)):Int) oq ?_;refine ik.mk 0 (n-1) rfl rfl (bw _) (by show n-1<=eG;omega) ?_;refine aU.mk (λbf=>?_) (λbf=>?_)
    ·have g5:0<n-1:=by simp at bf;omega
     refine⟨(g,c,⟨some cK,n-1,eG,aK⟩,hA,_),aD _ ⟨bs,aA,⟨?_,(λh=>by cases h),λbI _=>⟨eA,by show n-1<=eG;omega,kT,?_⟩⟩,?_,λe he=>fK e (by simp[he]),?_,?_⟩ ?_,.perm (M1:=[⟨b6,.cells t.ns[j].cells.toArray 83 (0,0)⟩]++(⟨cK,.cells aK.toArray 347 (0,0)⟩::c.M g)) (hX (l₂:=[_,_])) (.sub (jY _ _) .refl),fH,.cons rfl .nil⟩;·exact iA
     ·show aK.take ((n-1)*3)=_;rw[lR,<-iA];exact p5 rfl
     ·intro h;simp only at h;rw[h]at g6;simp at g6;omega
     ·simp only;rw[jg,jJ,<-nB,iB];simp[strOf]
     ·simp only;omega
     ·simp only[nz];omega
    ·have g5:n-1=0:=by simp at bf;omega
     have uk:hA=[]:=jh (by omega);have ou:c.cM=kw ax t.ns t.bD:=by rw[jg,jJ,<-nB,iB,uk];simp[ui,strOf]
     refine a9.mk (c.M g) [⟨b6,.cells t.ns[j].cells.toArray 83 (0,0)⟩,⟨cK,.cells aK.toArray 347 (0,0)⟩] _ (by simp) (xq g aA (by rw[ou];omega)) ?_;rintro v xz FZ -⟨rfl,rfl,rfl⟩;refine⟨_,_,.sub (fZ _) .refl,?_,bs,rfl⟩;rw[ou];rfl
   ·subst hw;refine bd.mk (((n-1:Nat)):Int) oq ?_;refine ik.mk 0 (n-1) rfl rfl (bw _) (by show n-1<=eG;omega) ?_;refine aU.mk (λbf=>?_) (λbf=>?_)
    ·have g5:0<n-1:=by simp at bf;omega
     refine⟨(g,a,⟨some cK,n-1,eG,aK⟩,hA,_),aD _ ⟨bs,aC,⟨?_,(λh=>by cases h),λbI _=>⟨eA,by show n-1<=eG;omega,kT,?_⟩⟩,?_,λe he=>fK e (by simp[he]),?_,?_⟩ ?_,.perm (M1:=[⟨b6,.cells t.ns[j].cells.toArray 83 (0,0)⟩]++(⟨cK,.cells aK.toArray 347 (0,0)⟩::a.M g)) (hX (l₂:=[_,_])) (.sub (jY _ _) .refl),fH,.cons rfl .nil⟩;·exact iA
     ·show aK.take ((n-1)*3)=_;rw[lR,<-iA];exact p5 rfl
     ·intro h;simp only at h;rw[h]at g6;simp at g6;omega
     ·simp only;rw[jJ,<-nB,iB];simp[strOf]
     ·simp only;omega
     ·simp only[nz];omega
    ·have g5:n-1=0:=by simp at bf;omega
     have uk:hA=[]:=jh (by omega);have ou:a.cM=kw ax t.ns t.bD:=by rw[jJ,<-nB,iB,uk];simp[ui,strOf]
     refine a9.mk (a.M g) [⟨b6,.cells t.ns[j].cells.toArray 83 (0,0)⟩,⟨cK,.cells aK.toArray 347 (0,0)⟩] _ (by simp) (xq g aC (by rw[ou];omega)) ?_;rintro v xz FZ -⟨rfl,rfl,rfl⟩;refine⟨_,_,.sub (fZ _) .refl,?_,bs,rfl⟩;rw[ou];rfl
def U8{K:ke}{a b d:dn}{e:Option (List Value)}(h:∀ G oo,V X c (fz (fz (fz G t3 d) t2 b) t1 a) (iO oo t1 e) I M K)
  (aa:F t1=a) (ab:F t2=b) (ag:F t3=d) (aW:C t1=e):V X c F C I M K:=by
 have:=h F C;rwa [CX ag,CX ab,CX aa,afv aW]at this
def afB(bp:e4 I ax)(ay:t.ok I)(aq:t.n<=1024):Spec Tryz.prog 244 [t.val] I [] λr I' M'=>r=.string (strOf (kX ax t))/\(∀ b o,I b=some o->I' b=some o)/\M'=[]:=by
 refine bN [3] aV Tryz.func244 rfl rfl rfl ?_;intro B ar;have mg:=ay.n;cases ak:right t with
 |true=>
  have AR:kX ax t=kw ax t.ns t.bD:=by simp[kX,ak]
  rw[AR];have AG:=vG ak;obtain⟨r,s6⟩:=h' AG.1;have gW:r<t.ns.length:=by omega
  obtain⟨ns,F0,Ju,Jv,bD⟩:=t;simp only at s6;subst s6;have s6:(⟨ns,F0,Ju,Jv,Int.ofNat r⟩:cB).bD=Int.ofNat r:=rfl;refine c5.scope aV rfl (λy:Nat×FU=>U2 ⟨ns,F0,Ju,Jv,Int.ofNat r⟩ y.1 y.2) (λ_=>0) (λy=>Jr I ax ⟨ns,F0,Ju,Jv,Int.ofNat r⟩ y.2) (λy=>vL ns y.2.2.2.1) (λ_=>Jq (CY (Tryz.f244.body.getD .skip)) 0) (λ_ _=>⟨by kernel_rfl,by kernel_rfl⟩) ?_ ?_
  ·refine a9.mk [] [] _ (.refl _) (xn bp.c ay) ?_;rintro v I' M' -⟨rfl,rfl,rfl⟩;rw[ak];refine aU.mk (λh=>by cases h) (λ_=>?_);refine b8.mk λg au xp=>?_;refine b8.mk λeQ C1 asg=>?_;refine U8 (t1:=1) (t2:=3) (t3:=4) (λG oo=>U3 bp ay ak aq (p:=λl y=>Jr _ ax ⟨ns,F0,Ju,Jv,Int.ofNat r⟩ y.2/\0=l) (g:=g) (fU.new,⟨some eQ,1,1,mR (r,0,false)⟩,[(r,0,false)],I') ?_ (λy aF _=>⟨aF,rfl⟩) B ar G oo) rfl rfl rfl rfl;refine⟨λ_ _ h=>h,fU.Jc,⟨rfl,(λh=>by cases h),λbI _=>⟨rfl,cj _,by simp only[maxLen];omega,rfl⟩⟩,by simp,?_,?_,?_⟩
   ·intro e he;simp only[fW]at he;subst he;exact gW
   ·simp only[ui,List.reverse_singleton,ob,NA,eh];have fe:=U0 (ax:=ax) ak gW false;simp only at fe |-;rw[fe];simp[fU.new,paren]
   ·have aa:=U1 ak gW false;have ab:=afu ak;simp only[CQ]at aa ab;simp only[vL,cY,kR,oc,List.sum_nil];omega
  ·rintro⟨g,x⟩ae;refine U8 (t1:=1) (t2:=3) (t3:=4) (λG oo=>U3 bp ay ak aq (g:=g) x ae (λy aF aR=>⟨⟨aF,rfl⟩,aR⟩) B ar G oo) rfl rfl rfl rfl
 |false=>
  have AR:kX ax t=[]:=by simp[kX,ak]
  rw[AR];refine c5.scope aV rfl (ι:=Empty) (λe=>nomatch e) (λe=>nomatch e) (λe=>nomatch e) (λe=>nomatch e) (λ_=>.skip) (λe=>nomatch e) ?_ (λe=>nomatch e);refine a9.mk [] [] _ (.refl _) (xn bp.c ay) ?_;rintro v I' M' -⟨rfl,rfl,rfl⟩;rw[ak];refine aU.mk (λ_=>?_) (λh=>by cases h);exact⟨_,_,.refl,rfl,λ_ _ h=>h,rfl⟩
def aQ.val(d:aQ):Value:=.agg #[.string d.name,.slice d.t.a d.t.n d.t.c,.int .i64 d.t.bD]
def kZ(ax:List Int)(d:aQ):List UInt8:=
 bif decide (strOf (kX ax d.t)=⟨#[]⟩) || !kl d.name then []else d.name.data.toList++[32,60,45,32]++kX ax d.t++[10]
def U9(h:kl s=true):s.size<=32:=by unfold kl at h;simp only[b',eU]at h;omega
def afC(ax:List Int)(d:aQ):(kZ ax d).length<=37+2412*d.t.ns.length:=by
 have aa:=UW ax d.t;unfold kZ;cases aA:(decide (strOf (kX ax d.t)=⟨#[]⟩) || !kl d.name)with
 |true=>simp| false=>simp only[oa,CU]at aA;have ab:=U9 aA.2;have ag:d.name.data.toList.length=d.name.size:=rfl;simp only[bh,cI,ea,gV];omega
def afD(bp:e4 I ax){d:aQ}(ah:d.ok I)(aq:d.t.n<=1024):Spec Tryz.prog 231 [d.val] I [] λr I' M'=>r=.string (strOf (kZ ax d))/\(∀ b o,I b=some o->I' b=some o)/\M'=[]:=by
 refine bN [] aV Tryz.func231 rfl rfl rfl ?_;intro B ar;refine a9.mk [] [] _ (.refl _) (afB bp ah.t aq) ?_;rintro v cU M1 -⟨rfl,bO,rfl⟩;refine b4.mk (λaa=>?_) (λaa=>?_)
 ·refine a9.mk [] [] _ (.refl _) (Nf _ d.name) ?_;rintro v I' M' -⟨rfl,rfl,rfl⟩;refine aU.mk (λab=>?_) (λab=>?_)
  ·refine⟨_,_,.refl,?_,bO,rfl⟩;have:kZ ax d=[]:=by unfold kZ;rw[aa,ab];rfl
   rw[this];rfl
  ·have hm:kl d.name=true:=by simpa using ab
   have ab:=U9 hm;have ag:d.name.data.toList.length=d.name.size:=rfl;have aW:=UW ax d.t;have bC:=ah.t.n;refine e'.concat (a:=d.name) (b:=strOf [32,60,45,32]) (by show _+4<=_;omega) ?_;refine e'.concat (a:=d.name++strOf [32,60,45,32]) (b:=strOf (kX ax d.t)) (by rw[Jj];show _+4+(kX ax d.t).length<=_;omega) ?_;refine e'.concat (a:=d.name++strOf [32,60,45,32]++strOf (kX ax d.t)) (b:=strOf [10]) (by rw[Jj,Jj];show _+4+(kX ax d.t).length+1<=_;omega) ?_;refine⟨_,_,.refl,?_,bO,rfl⟩;refine congrArg Value.string (CM ?_);rw[kZ,aa,hm];simp[strOf]
 ·refine⟨_,_,.refl,?_,bO,rfl⟩;have:kZ ax d=[]:=by unfold kZ;rw[aa];rfl
  rw[this];rfl
def mS(ax:List Int):List aQ->List UInt8->List UInt8
 |[],a4=>a4| d::ds,a4=>bif decide (strOf (kZ ax d)=⟨#[]⟩)then []else mS ax ds (a4++kZ ax d)
def afE(bp:e4 I ax)(au:g.ok I)(aq:g.n<=64)(ay:∀ d∈g.ds,d.t.n<=1024):Spec Tryz.prog 207 [g.val] I [] λr I' M'=>r=.string (strOf (mS ax g.ds []))/\(∀ b o,I b=some o->I' b=some o)/\M'=[]:=by
 refine bN [3] aV Tryz.func207 rfl rfl rfl ?_;intro B ar;have eH:=au.n;have r4:∀ d∈g.ds,d.t.ns.length<=1024:=λd ah=>by rw[(au.ds d ah).t.n];exact ay d ah
 refine b8.mk λb ai ph=>?_;refine c4.inv (ι:=Nat×fU×aZ) (λp=>{ bu:=[(3,.val (ptr b)),(8,.val (.slice g.a g.n g.c)),(9,.val (.int .i64 g.n)),(10,.val (.int .i64 p.1))],cS:=p.2.2,db:=p.2.1.M b }) (λp=>p.1<=g.n/\p.2.1.ok/\(∀ b o,I b=some o->p.2.2 b=some o)/\p.2.1.cM.length<=2500000*p.1/\mS ax g.ds []=mS ax (g.ds.drop p.1) p.2.1.cM) (λp=>g.n-p.1) ?_ ?_
 ·exact⟨(0,fU.new,I),⟨by simp,fU.Jc,λ_ _ h=>h,by simp[fU.new],rfl⟩,.refl,ey,.nil⟩
 ·rintro⟨i,x,cU⟩⟨hi,ae,bO,fD,oj⟩;simp only at hi ae bO fD oj;refine aU.mk (λh=>?_) (λh=>?_)
  ·have aR:i<g.n:=by simpa using h
   have bZ:i<g.ds.length:=by omega
   have kr:=au.mono bO;obtain⟨ad,bF,bk⟩:=kr.a8.row aQ.cD aR bZ;have eS:g.ds[i]∈g.ds:=cJ bZ;have xA:=afC ax g.ds[i];have fe:=r4 _ eS;have ko:g.ds.drop i=g.ds[i]::g.ds.drop (i+1):=eE bZ;refine bi.mk ad i bF rfl aR ?_;refine aI.mk _ (bk _) ?_;refine a9.mk [] (x.M b) _ (.refl _) (afD (bp.mono bO) (kr.ds _ eS) (ay _ eS)) ?_;rintro v ev ez -⟨rfl,eM,rfl⟩;refine aU.mk (λaa=>?_) (λaa=>?_);·refine⟨_,_,.sub (fZ _) .refl,?_,λb o h=>eM _ _ (bO _ _ h),rfl⟩;rw[oj,ko,mS,aa];rfl
   ·refine a9.mk (x.M b) [] _ (by simp) (tZ b ae _ (by show _+(kZ ax g.ds[i]).length<=_;omega)) ?_;rintro v I' M' -⟨rfl,rfl,y,aF,hl,rfl⟩;have U':y.cM=x.cM++kZ ax g.ds[i]:=hl;have fu:IntKind.i64.wrap ((i:Int)+1)=((i+1:Nat):Int):=by rw[wrap_i64 ⟨by omega,by omega⟩];omega
    refine bd.mk _ fu ?_;refine⟨(i+1,y,_),⟨⟨by simp only;omega,aF,λb o h=>eM _ _ (bO _ _ h),?_,?_⟩,by simp only;omega⟩,.perm (by simp) .refl,ey,.nil⟩;·simp only;rw[U',cI];omega
    ·simp only;rw[oj,ko,mS,aa,U'];rfl
  ·have cP:g.n<=i:=by simpa using h
   have gE:g.ds.drop i=[]:=ji (by omega);refine a9.mk (x.M b) [] _ (by simp) (xq b ae (by omega)) ?_;rintro v I' M' -⟨rfl,rfl,rfl⟩;refine⟨_,_,.refl,?_,bO,by simp⟩;rw[oj,gE];rfl
def afF(bp:e4 I ax)(au:g.ok I)(aq:g.n<=64)(ay:∀ d∈g.ds,d.t.n<=1024):Spec Tryz.prog 136 [g.val] I [] λr I' M'=>r=.int .i64 ((mS ax g.ds []).length:Int)/\(∀ b o,I b=some o->I' b=some o)/\M'=[]:=by refine bN [] aV Tryz.func136 rfl rfl rfl ?_;intro B ar;refine a9.mk [] [] _ (.refl _) (afE bp au aq ay) ?_;rintro v I' M' -⟨rfl,bA,rfl⟩;exact⟨_,_,.refl,rfl,bA,rfl⟩
def lV(ns:List aS)(kind:Int):List Int->Bool
 |[]=>true| k::ks=>bif decide (kW ns k=kind)||(decide (kW ns k=0)&&decide (kind=4))then false else lV ns kind ks
def lW(ns:List aS):List aS->Bool
 |[]=>true| d::ds=>bif !decide (d.k=4) && !decide (d.k=5)then lW ns ds else bif lV ns d.k d.aL then lW ns ds else false
def normal(t:cB):Bool:=right t&&lW t.ns t.ns
def cx(h:i<=140737488355328):IntKind.i64.wrap ((i:Int)+1)=((i+1:Nat):Int):=by rw[wrap_i64 ⟨by omega,by omega⟩];omega
def afG(aA:q0 I)(ay:t.ok I):Spec Tryz.prog 88 [t.val] I [] (λv I' M'=>v=.bool (normal t)/\I'=I/\M'=[]):=by
 refine bN [] aV Tryz.func88 rfl rfl rfl ?_;intro B ar;have aq:=ay.n;have hz:=ay.a8.cap;refine a9.mk [] [] _ (.refl _) (xn aA ay) ?_;rintro v I' M' -⟨rfl,rfl,rfl⟩;refine aU.mk (λh=>?_) (λh=>?_)
 ·refine⟨_,_,.refl,?_,rfl,rfl⟩;simp[normal,show right t=false by simpa using h]
 ·have ak:right t=true:=by simpa using h
  have dB:normal t=lW t.ns t.ns:=by simp[normal,ak]
  rw[dB];refine c4.inv (ι:=Nat) (λi=>{ bu:=[(1,.ref 1 0),(12,.val (.slice t.a t.n t.c)),(13,.val (.int .i64 t.n)),(14,.val (.int .i64 i))],cl:=[(1,t.cells)],cS:=I' }) (λi=>i<=t.n/\lW t.ns t.ns=lW t.ns (t.ns.drop i)) (λi=>t.n-i) ?_ ?_;·exact⟨0,⟨by simp,rfl⟩,.refl,ey,.cons rfl .nil⟩
  ·rintro i⟨hi,fK⟩;refine aU.mk (λh=>?_) (λh=>?_)
   ·have aR:i<t.n:=by simpa using h
    have bZ:i<t.ns.length:=by omega
    obtain⟨ad,bF,bk⟩:=ay.a8.row aS.cD aR bZ;have jk:=ay.ns t.ns[i] (cJ bZ);have dS:=jk.kn;have ko:t.ns.drop i=t.ns[i]::t.ns.drop (i+1):=eE bZ;refine bi.mk ad i bF rfl aR ?_;refine aI.mk _ (bk _) ?_;refine b4.mk (λeg=>?_) (λeg=>?_)
    ·refine aU.mk (λcA=>?_) (λcA=>?_)
     ·refine bd.mk _ (cx (i:=i) (by omega)) ?_;refine⟨i+1,⟨⟨by omega,?_⟩,by omega⟩,.refl,ey,.cons rfl .nil⟩;rw[fK,ko,lW,eg,cA];rfl
     ·have oi:lW t.ns t.ns=bif lV t.ns t.ns[i].k t.ns[i].aL then lW t.ns (t.ns.drop (i+1))else false:=by rw[fK,ko,lW,eg,cA];rfl
      refine c4.inv (ι:=Nat) (λj=>{ bu:=[(1,.ref 1 0),(4,.ref 4 0),(12,.val (.slice t.a t.n t.c)),(13,.val (.int .i64 t.n)),(14,.val (.int .i64 i)),(27,.val (.slice t.ns[i].hk t.ns[i].kn t.ns[i].gR)),(28,.val (.int .i64 t.ns[i].kn)),(29,.val (.int .i64 j))],cl:=[(1,t.cells),(4,t.ns[i].cells)],cS:=I' }) (λj=>j<=t.ns[i].kn/\lV t.ns t.ns[i].k t.ns[i].aL=lV t.ns t.ns[i].k (t.ns[i].aL.drop j)) (λj=>t.ns[i].kn-j) ?_ ?_;·exact⟨0,⟨by simp,rfl⟩,.refl,rP,.cons rfl (.cons rfl .nil)⟩
      ·rintro j⟨an,nE⟩;refine aU.mk (λh=>?_) (λh=>?_)
       ·have fl:j<t.ns[i].kn:=by simpa using h
        have kp:j<t.ns[i].aL.length:=by omega
        obtain⟨fR,fS,e2⟩:=jk.a8.one fl kp;have hZ:t.ns[i].aL.drop j=t.ns[i].aL[j]::t.ns[i].aL.drop (j+1):=eE kp;have hc:=mm ak i bZ _ (cJ kp);generalize lQ:t.ns[i].aL[j]=afH at *;obtain⟨q,rfl⟩:=h' hc.1;have fm:q<t.ns.length:=by omega
        have ot:q<t.n:=by omega
        obtain⟨q9,xw,xx⟩:=ay.a8.row aS.cD ot fm;have xy:∀ M,cr I' M ((q9.add (q*9)).add 0) 1 [.int .u8 t.ns[q].k]:=λM=>(xx M).part (k:=0) (m:=1) (by decide);have uj:kW t.ns ((q:Nat):Int)=t.ns[q].k:=by simp[kW,cC,fm]
        have bad:(decide (t.ns[q].k=t.ns[i].k)||(decide (t.ns[q].k=0)&&decide (t.ns[i].k=4)))=true->lW t.ns t.ns=false:=λai=>by rw[oi,nE,hZ,lV,uj,ai];rfl
        have F1:(decide (t.ns[q].k=t.ns[i].k)||(decide (t.ns[q].k=0)&&decide (t.ns[i].k=4)))=false->lV t.ns t.ns[i].k t.ns[i].aL=lV t.ns t.ns[i].k (t.ns[i].aL.drop (j+1)):=λai=>by rw[nE,hZ,lV,uj,ai];rfl
        have fu:=cx (i:=j) (by have:=jk.a8.cap;omega);refine bi.mk fR j fS rfl fl ?_;refine aI.mk _ (e2 _) ?_;refine bi.mk q9 q xw rfl ot ?_;refine aI.mk _ (xy _) ?_;refine b4.mk (λfB=>?_) (λfB=>?_)
        ·refine b4.mk (λfC=>?_) (λfC=>?_)
         ·refine aU.mk (λr6=>?_) (λr6=>?_)
          ·refine⟨_,_,.refl,?_,rfl,rfl⟩;rw[bad (by rw[fB,fC,r6];rfl)]
          ·refine bd.mk _ fu ?_;exact⟨j+1,⟨⟨by omega,F1 (by rw[fB,fC,r6];rfl)⟩,by omega⟩,.refl,rP,.cons rfl (.cons rfl .nil)⟩
         ·refine bd.mk _ fu ?_;exact⟨j+1,⟨⟨by omega,F1 (by rw[fB,fC];rfl)⟩,by omega⟩,.refl,rP,.cons rfl (.cons rfl .nil)⟩
        ·refine⟨_,_,.refl,?_,rfl,rfl⟩;rw[bad (by rw[fB];rfl)]
       ·have AF:t.ns[i].aL.drop j=[]:=ji (by simp at h;omega);refine bd.mk _ (cx (i:=i) (by omega)) ?_;refine⟨i+1,⟨⟨by omega,?_⟩,by omega⟩,.refl,ey,.cons rfl .nil⟩;rw[oi,nE,AF];rfl
    ·have oi:lW t.ns t.ns=bif lV t.ns t.ns[i].k t.ns[i].aL then lW t.ns (t.ns.drop (i+1))else false:=by rw[fK,ko,lW,eg];rfl
     refine c4.inv (ι:=Nat) (λj=>{ bu:=[(1,.ref 1 0),(4,.ref 4 0),(12,.val (.slice t.a t.n t.c)),(13,.val (.int .i64 t.n)),(14,.val (.int .i64 i)),(27,.val (.slice t.ns[i].hk t.ns[i].kn t.ns[i].gR)),(28,.val (.int .i64 t.ns[i].kn)),(29,.val (.int .i64 j))],cl:=[(1,t.cells),(4,t.ns[i].cells)],cS:=I' }) (λj=>j<=t.ns[i].kn/\lV t.ns t.ns[i].k t.ns[i].aL=lV t.ns t.ns[i].k (t.ns[i].aL.drop j)) (λj=>t.ns[i].kn-j) ?_ ?_;·exact⟨0,⟨by simp,rfl⟩,.refl,rP,.cons rfl (.cons rfl .nil)⟩
     ·rintro j⟨an,nE⟩;refine aU.mk (λh=>?_) (λh=>?_)
      ·have fl:j<t.ns[i].kn:=by simpa using h
       have kp:j<t.ns[i].aL.length:=by omega
       obtain⟨fR,fS,e2⟩:=jk.a8.one fl kp;have hZ:t.ns[i].aL.drop j=t.ns[i].aL[j]::t.ns[i].aL.drop (j+1):=eE kp;have hc:=mm ak i bZ _ (cJ kp);generalize lQ:t.ns[i].aL[j]=afH at *;obtain⟨q,rfl⟩:=h' hc.1;have fm:q<t.ns.length:=by omega
       have ot:q<t.n:=by omega
       obtain⟨q9,xw,xx⟩:=ay.a8.row aS.cD ot fm;have xy:∀ M,cr I' M ((q9.add (q*9)).add 0) 1 [.int .u8 t.ns[q].k]:=λM=>(xx M).part (k:=0) (m:=1) (by decide);have uj:kW t.ns ((q:Nat):Int)=t.ns[q].k:=by simp[kW,cC,fm]
       have bad:(decide (t.ns[q].k=t.ns[i].k)||(decide (t.ns[q].k=0)&&decide (t.ns[i].k=4)))=true->lW t.ns t.ns=false:=λai=>by rw[oi,nE,hZ,lV,uj,ai];rfl
       have F1:(decide (t.ns[q].k=t.ns[i].k)||(decide (t.ns[q].k=0)&&decide (t.ns[i].k=4)))=false->lV t.ns t.ns[i].k t.ns[i].aL=lV t.ns t.ns[i].k (t.ns[i].aL.drop (j+1)):=λai=>by rw[nE,hZ,lV,uj,ai];rfl
       have fu:=cx (i:=j) (by have:=jk.a8.cap;omega);refine bi.mk fR j fS rfl fl ?_;refine aI.mk _ (e2 _) ?_;refine bi.mk q9 q xw rfl ot ?_;refine aI.mk _ (xy _) ?_;refine b4.mk (λfB=>?_) (λfB=>?_)
       ·refine b4.mk (λfC=>?_) (λfC=>?_)
        ·refine aU.mk (λr6=>?_) (λr6=>?_)
         ·refine⟨_,_,.refl,?_,rfl,rfl⟩;rw[bad (by rw[fB,fC,r6];rfl)]
         ·refine bd.mk _ fu ?_;exact⟨j+1,⟨⟨by omega,F1 (by rw[fB,fC,r6];rfl)⟩,by omega⟩,.refl,rP,.cons rfl (.cons rfl .nil)⟩
        ·refine bd.mk _ fu ?_;exact⟨j+1,⟨⟨by omega,F1 (by rw[fB,fC];rfl)⟩,by omega⟩,.refl,rP,.cons rfl (.cons rfl .nil)⟩
       ·refine⟨_,_,.refl,?_,rfl,rfl⟩;rw[bad (by rw[fB];rfl)]
      ·have AF:t.ns[i].aL.drop j=[]:=ji (by simp at h;omega);refine bd.mk _ (cx (i:=i) (by omega)) ?_;refine⟨i+1,⟨⟨by omega,?_⟩,by omega⟩,.refl,ey,.cons rfl .nil⟩;rw[oi,nE,AF];rfl
   ·have cP:t.n<=i:=by simpa using h
    have gE:t.ns.drop i=[]:=ji (by omega);refine⟨_,_,.refl,?_,rfl,rfl⟩;rw[fK,gE];rfl
def qh(t:cB):Nat:=bif right t then t.n else 0
def um(g:bJ):Nat:=(g.ds.map λd=>qh d.t).sum
def Va{α:Type}(f:α->Nat)(m:Nat):∀ (l:List α),(∀ x∈l,f x<=m)->(l.map f).sum<=m*l.length
 |[],_=>by simp
 |x::l,h=>by have aa:=h x (by simp);have ab:=Va f m l λy aF=>h y (by simp[aF]);simp only[cY,oc,ea,Nat.mul_add];omega
def afI(aA:q0 I)(au:g.ok I)(aq:g.n<=64)(ay:∀ d∈g.ds,d.t.n<=1024):Spec Tryz.prog 135 [g.val] I [] (λv I' M'=>v=.int .i64 (um g:Nat)/\I'=I/\M'=[]):=by
 refine bN [] aV Tryz.func135 rfl rfl rfl ?_;intro B ar;have eH:=au.n;refine c4.inv (ι:=Nat) (λi=>{ bu:=[(3,.val (.int .i64 (((g.ds.take i).map λd=>qh d.t).sum:Nat))),(7,.val (.slice g.a g.n g.c)),(8,.val (.int .i64 g.n)),(9,.val (.int .i64 i))],cS:=I }) (λi=>i<=g.n) (λi=>g.n-i) ?_ ?_
 ·exact⟨0,by simp,.refl,ey,.nil⟩
 ·intro i hi;refine aU.mk (λh=>?_) (λh=>?_)
  ·have aR:i<g.n:=by simpa using h
   have bZ:i<g.ds.length:=by omega
   obtain⟨ad,bF,bk⟩:=au.a8.row aQ.cD aR bZ;have eS:g.ds[i]∈g.ds:=cJ bZ;have ap:((g.ds.take i).map λd=>qh d.t).sum<=1024*(g.ds.take i).length:=Va _ 1024 _ λd ah=>by
    have:=ay d (CR ah);unfold qh;cases right d.t<;>simp
    omega
   have av:=Aw i g.ds;have fs:qh g.ds[i].t<=1024:=by
    have:=ay _ eS;unfold qh;cases right g.ds[i].t<;>simp
    omega
   refine bi.mk ad i bF rfl aR ?_;refine aI.mk _ (bk _) ?_;refine a9.mk [] [] _ (.refl _) (aeO aA (au.ds _ eS).t) ?_;rintro v I' M' -⟨rfl,rfl,rfl⟩;have az:(bif right g.ds[i].t then(g.ds[i].t.n:Int)else 0)=(qh g.ds[i].t:Nat):=by
    unfold qh;cases right g.ds[i].t<;>rfl
   rw[az];refine bd.mk ((((g.ds.take (i+1)).map λd=>qh d.t).sum:Nat):Int) ?_ ?_;·rw[wrap_i64 ⟨by omega,by omega⟩,gf bZ,e7,NC];simp
   refine bd.mk _ (cx (i:=i) (by omega)) ?_;exact⟨i+1,⟨by omega,by omega⟩,.refl,ey,.nil⟩
  ·have cP:g.n<=i:=by simpa using h
   refine⟨_,_,.refl,?_,rfl,rfl⟩;rw[eW (by omega)];rfl
def nF(ax:List Int)(g:bJ):Bool:=
 decide (64<g.n)||((!g.ds.all λd=>pj d.t)||(decide (1024<um g)||decide (8192<(mS ax g.ds []).length)))
def afJ(bp:e4 I ax)(au:g.ok I):Spec Tryz.prog 89 [g.val] I [] (λv I' M'=>v=.bool (nF ax g)/\(∀ b o,I b=some o->I' b=some o)/\M'=[]):=by
 refine bN [] aV Tryz.func89 rfl rfl rfl ?_;intro B ar;have eH:=au.n;refine aU.mk (λaa=>?_) (λaa=>?_)
 ·refine⟨_,_,.refl,?_,λ_ _ h=>h,rfl⟩;have:64<g.n:=by simp at aa;omega
  simp[nF,this]
 ·have aq:g.n<=64:=by simp at aa;omega
  have cG:nF ax g=((!g.ds.all λd=>pj d.t)||(decide (1024<um g)||decide (8192<(mS ax g.ds []).length))):=by
   have:¬ 64<g.n:=by omega
   simp[nF,this]
  rw[cG];refine c4.inv (ι:=Nat) (λi=>{ bu:=[(1,.ref 1 0),(10,.val (.slice g.a g.n g.c)),(11,.val (.int .i64 g.n)),(12,.val (.int .i64 i))],cl:=[(1,[.slice g.a g.n g.c])],cS:=I }) (λi=>i<=g.n/\(g.ds.take i).all (λd=>pj d.t)=true) (λi=>g.n-i) ?_ ?_;·exact⟨0,⟨by simp,rfl⟩,.refl,ey,.cons rfl .nil⟩
  ·rintro i⟨hi,hr⟩;refine aU.mk (λh=>?_) (λh=>?_)
   ·have aR:i<g.n:=by simpa using h
    have bZ:i<g.ds.length:=by omega
    obtain⟨ad,bF,bk⟩:=au.a8.row aQ.cD aR bZ;have eS:g.ds[i]∈g.ds:=cJ bZ;refine bi.mk ad i bF rfl aR ?_;refine aI.mk _ (bk _) ?_;refine a9.mk [] [] _ (.refl _) (aeR bp.c (au.ds _ eS).t) ?_;rintro v I' M' -⟨rfl,rfl,rfl⟩;refine aU.mk (λab=>?_) (λab=>?_)
    ·refine⟨_,_,.refl,?_,λ_ _ h=>h,rfl⟩;have aJ:pj g.ds[i].t=false:=by simpa using ab
     have:(g.ds.all λd=>pj d.t)=false:=by rw[Jk];exact⟨_,eS,by simp[aJ]⟩
     rw[this];rfl
    ·have aJ:pj g.ds[i].t=true:=by simpa using ab
     refine bd.mk _ (cx (i:=i) (by omega)) ?_;refine⟨i+1,⟨⟨by omega,?_⟩,by omega⟩,.refl,ey,.cons rfl .nil⟩;rw[gf bZ,FM,hr];simp[aJ]
   ·have cP:g.n<=i:=by simpa using h
    rw[eW (by omega)]at hr;rw[hr];have Vb:∀ d∈g.ds,d.t.n<=1024:=λd ah=>by have:=eP.1 hr d ah;unfold pj at this;simp only[b',eU]at this;exact this.1
    refine a9.mk [] [] _ (.refl _) (afI bp.c au aq Vb) ?_;rintro v I' M' -⟨rfl,rfl,rfl⟩;refine b4.mk (λab=>?_) (λab=>?_)
    ·refine a9.mk [] [] _ (.refl _) (afF bp au aq Vb) ?_;rintro v ev M' -⟨rfl,eM,rfl⟩;refine⟨_,_,.refl,?_,eM,rfl⟩;have ix:¬ 1024<um g:=by simp at ab;omega
     simp[ix];omega
    ·refine⟨_,_,.refl,?_,λ_ _ h=>h,rfl⟩;have ix:1024<um g:=by simp at ab;omega
     simp[ix]
def b2(name:ByteArray):List aQ->Nat->Int
 |[],_=>-1| d::ds,i=>bif decide (d.name=name)then(i:Int)else b2 name ds (i+1)
def NR(au:g.ok I)(name:ByteArray):Spec Tryz.prog 59 [g.val,.string name] I [] (λv I' M'=>v=.int .i64 (b2 name g.ds 0)/\I'=I/\M'=[]):=by
 refine bN [] aV Tryz.func59 rfl rfl rfl ?_;intro B ar;have eH:=au.n;have hz:=au.a8.cap;refine c4.inv (ι:=Nat) (λi=>{ bu:=[(1,.val (.string name)),(8,.val (.slice g.a g.n g.c)),(9,.val (.int .i64 g.n)),(10,.val (.int .i64 i))],cS:=I }) (λi=>i<=g.n/\b2 name g.ds 0=b2 name (g.ds.drop i) i) (λi=>g.n-i) ?_ ?_
 ·exact⟨0,⟨by simp,rfl⟩,.refl,ey,.nil⟩
 ·rintro i⟨hi,aJ⟩;refine aU.mk (λh=>?_) (λh=>?_)
  ·have aR:i<g.n:=by simpa using h
   have bZ:i<g.ds.length:=by omega
   obtain⟨ad,bF,bk⟩:=au.a8.row aQ.cD aR bZ;have ko:g.ds.drop i=g.ds[i]::g.ds.drop (i+1):=eE bZ;refine bi.mk ad i bF rfl aR ?_;refine aI.mk _ (bk _) ?_;refine aU.mk (λab=>?_) (λab=>?_);·refine⟨_,_,.refl,?_,rfl,rfl⟩;rw[aJ,ko,b2,ab];rfl
   ·refine bd.mk _ (cx (i:=i) (by omega)) ?_;refine⟨i+1,⟨⟨by omega,?_⟩,by omega⟩,.refl,ey,.nil⟩;rw[aJ,ko,b2,ab];rfl
  ·have cP:g.n<=i:=by simpa using h
   refine⟨_,_,.refl,?_,rfl,rfl⟩;rw[aJ,ji (by omega)];rfl
def drop_cons{L:List α}{x:α}{bb:List α}(h:L.drop k=x::bb):∃ af:k<L.length,L[k]=x/\L.drop (k+1)=bb:=by
 have af:k<L.length:=by apply Fq;intro bs;rw[ji bs]at h;cases h
 have ah:=eE af;rw[h]at ah;obtain⟨aa,ab⟩:=List.cons.inj ah;exact⟨af,aa.symm,ab.symm⟩
def tf:Nat->List aQ->List (List Value)
 |_,[]=>[]| i,d::ds=>d.t.ns.map (λn=>[.int .i64 i,n.val])++tf (i+1) ds
def afK(g:bJ):Spec Tryz.prog 90 [g.val] I [] λr I' M'=>∃ b,r=.func (.func 137) #[] #[ptr b]/\I' b=some (.cells #[.slice g.a g.n g.c] 24 (0,0))/\(∀ b o,I b=some o->I' b=some o)/\M'=[]:=by refine bN [1] aV Tryz.func90 rfl rfl rfl ?_;intro B ar;refine b8.mk λg au xp=>?_;exact⟨_,_,.nk rfl (by simp) .refl,g,rfl,q5 ..,lr au,rfl⟩
def afL(au:g.ok I){b:Nat}(ai:I b=some (.cells #[.slice g.a g.n g.c] 24 (0,0))) :
  Iter Tryz.prog 137 [ptr b] I (tf 0 g.ds):=by
 intro l R sZ vJ dM M0 pt ki;refine Ct [] aV Tryz.func137 rfl rfl rfl ?_;intro B ar;have eH:=au.n;have hz:=au.a8.cap;have bk:∀ (M:List aB),cr dM M ((⟨b,0,none⟩:Addr).add 0) 1 [.slice g.a g.n g.c]:=λM=>⟨rfl,_,_,_,.inl (pt _ _ ai),rfl,rfl⟩;refine aI.mk _ (bk _) ?_;refine c4.inv (ι:=Nat×Nat×aZ×List aB) (λx=>{ bu:=[(0,.val (.func (.yield l) #[] #[])),(8,.val (.slice g.a g.n g.c)),(9,.val (.int .i64 g.n)),(10,.val (.int .i64 x.1))],cS:=x.2.2.1,db:=x.2.2.2 }) (λx=>x.1<=g.n/\(∀ b o,I b=some o->x.2.2.1 b=some o)/\R x.2.1 x.2.2.1 x.2.2.2/\x.2.1<=(tf 0 g.ds).length/\(tf 0 g.ds).drop x.2.1=tf x.1 (g.ds.drop x.1)) (λx=>g.n-x.1) ?_ ?_
 ·exact⟨(0,0,dM,M0),⟨by simp,pt,ki,by simp,rfl⟩,.refl,ey,.nil⟩
 ·rintro⟨i,k,cU,M1⟩⟨hi,bO,kq,cw,gY⟩;simp only at hi bO kq cw gY;refine aU.mk (λh=>?_) (λh=>?_)
  ·have aR:i<g.n:=by simpa using h
   have bZ:i<g.ds.length:=by omega
   have kr:=au.mono bO;obtain⟨ad,bF,NS⟩:=kr.a8.row aQ.cD aR bZ;have eS:g.ds[i]∈g.ds:=cJ bZ;have lX:=(au.ds _ eS).t.n;have ash:=(au.ds _ eS).t.a8.cap;have ko:g.ds.drop i=g.ds[i]::g.ds.drop (i+1):=eE bZ;refine bi.mk ad i bF rfl aR ?_;refine aI.mk _ (NS _) ?_;refine c4.inv (ι:=Nat×Nat×aZ×List aB) (λx=>{ bu:=[(0,.val (.func (.yield l) #[] #[])),(3,.val (.int .i64 i)),(8,.val (.slice g.a g.n g.c)),(9,.val (.int .i64 g.n)),(10,.val (.int .i64 i)),(17,.val (.slice g.ds[i].t.a g.ds[i].t.n g.ds[i].t.c)),(18,.val (.int .i64 g.ds[i].t.n)),(19,.val (.int .i64 x.1))],cS:=x.2.2.1,db:=x.2.2.2 }) (λx=>x.1<=g.ds[i].t.n/\(∀ b o,I b=some o->x.2.2.1 b=some o)/\R x.2.1 x.2.2.1 x.2.2.2/\x.2.1<=(tf 0 g.ds).length/\(tf 0 g.ds).drop x.2.1=(g.ds[i].t.ns.drop x.1).map (λn=>[.int .i64 i,n.val])++tf (i+1) (g.ds.drop (i+1))) (λx=>g.ds[i].t.n-x.1) ?_ ?_;·refine⟨(0,k,cU,M1),⟨by simp,bO,kq,cw,?_⟩,.refl,rP,.nil⟩;simp only;rw[gY,ko];rfl
   ·rintro⟨j,k,cU,M1⟩⟨an,bO,kq,cw,gY⟩;simp only at an bO kq cw gY;refine aU.mk (λh=>?_) (λh=>?_)
    ·have fl:j<g.ds[i].t.n:=by simpa using h
     have kp:j<g.ds[i].t.ns.length:=by omega
     have kr:=au.mono bO;obtain⟨jm,zc,jE⟩:=(kr.ds _ eS).t.a8.row aS.cD fl kp;have cg:g.ds[i].t.ns.drop j=g.ds[i].t.ns[j]::g.ds[i].t.ns.drop (j+1):=eE kp;rw[cg,cY,qZ]at gY;obtain⟨af,aj,mq⟩:=drop_cons gY;refine bi.mk jm j zc rfl fl ?_;refine aI.mk _ (jE _) ?_;refine bn.yield rfl (by simp) rfl rfl ?_;have aF:=vJ k af cU M1 bO kq;rw[aj]at aF;refine Fu.mk M1 [] _ (by simp) aF ?_;rintro v ev ez eM (⟨rfl,pg⟩ | ⟨rfl,ae⟩);·refine aU.mk (λh=>by simp at h) (λ_=>?_);refine bd.mk _ (cx (i:=j) (by omega)) ?_;exact⟨(j+1,k+1,ev,ez),⟨⟨by simp only;omega,λb o h=>eM b o (bO b o h),pg,af,mq⟩,by simp only;omega⟩,.perm (by simp) .refl,rP,.nil⟩
     ·refine aU.mk (λ_=>?_) (λh=>by simp at h);exact⟨_,_,.perm (by simp) .refl,.inr ae⟩
    ·have cP:g.ds[i].t.n<=j:=by simpa using h
     rw[ji (show g.ds[i].t.ns.length<=j by omega),kR,jZ]at gY;refine bd.mk _ (cx (i:=i) (by omega)) ?_;exact⟨(i+1,k,cU,M1),⟨⟨by simp only;omega,bO,kq,cw,gY⟩,by simp only;omega⟩,.refl,ey,.nil⟩
  ·have cP:g.n<=i:=by simpa using h
   refine⟨_,_,.refl,.inl ?_⟩;rw[ji (show g.ds.length<=i by omega)]at gY;have xt:k=(tf 0 g.ds).length:=by have:=I1.1 gY;omega
   rw[<-xt];exact kq
def ht(ns:List aS):List ByteArray:=(ns.filter λd=>decide (d.k=3)).map (·.t)
def afM(t:cB):Spec Tryz.prog 219 [t.val] I [] λr I' M'=>∃ b,r=.func (.func 234) #[] #[ptr b]/\I' b=some (.cells #[.slice t.a t.n t.c,.int .i64 t.bD] 28 (0,0))/\(∀ b o,I b=some o->I' b=some o)/\M'=[]:=by refine bN [1] aV Tryz.func219 rfl rfl rfl ?_;intro B ar;refine b8.mk λg au xp=>?_;exact⟨_,_,.nk rfl (by simp) .refl,g,rfl,q5 ..,lr au,rfl⟩
def afN(ay:t.ok I){b:Nat}(ai:I b=some (.cells #[.slice t.a t.n t.c,.int .i64 t.bD] 28 (0,0))) :
  Iter Tryz.prog 234 [ptr b] I ((ht t.ns).map λs=>[.string s]):=by
 intro l R sZ vJ dM M0 pt ki;refine Ct [] aV Tryz.func234 rfl rfl rfl ?_;intro B ar;have lX:=ay.n;have hz:=ay.a8.cap;have bk:∀ (M:List aB),cr dM M ((⟨b,0,none⟩:Addr).add 0) 1 [.slice t.a t.n t.c]:=λM=>⟨rfl,_,_,_,.inl (pt _ _ ai),rfl,rfl⟩;refine aI.mk _ (bk _) ?_;refine c4.inv (ι:=Nat×Nat×aZ×List aB) (λx=>{ bu:=[(0,.val (.func (.yield l) #[] #[])),(6,.val (.slice t.a t.n t.c)),(7,.val (.int .i64 t.n)),(8,.val (.int .i64 x.1))],cS:=x.2.2.1,db:=x.2.2.2 }) (λx=>x.1<=t.n/\(∀ b o,I b=some o->x.2.2.1 b=some o)/\R x.2.1 x.2.2.1 x.2.2.2/\x.2.1<=((ht t.ns).map λs=>[Value.string s]).length/\((ht t.ns).map λs=>[Value.string s]).drop x.2.1=(ht (t.ns.drop x.1)).map λs=>[.string s]) (λx=>t.n-x.1) ?_ ?_
 ·exact⟨(0,0,dM,M0),⟨by simp,pt,ki,by simp,rfl⟩,.refl,ey,.nil⟩
 ·rintro⟨j,k,cU,M1⟩⟨an,bO,kq,cw,gY⟩;simp only at an bO kq cw gY;refine aU.mk (λh=>?_) (λh=>?_)
  ·have fl:j<t.n:=by simpa using h
   have kp:j<t.ns.length:=by omega
   have td:=ay.mono bO;obtain⟨jm,zc,jE⟩:=td.a8.row aS.cD fl kp;have cg:t.ns.drop j=t.ns[j]::t.ns.drop (j+1):=eE kp;refine bi.mk jm j zc rfl fl ?_;refine aI.mk _ (jE _) ?_;refine b4.mk (λaa=>?_) (λaa=>?_)
   ·have oq:ht (t.ns.drop j)=t.ns[j].t::ht (t.ns.drop (j+1)):=by rw[cg];simp only[ht,Cf,aa,pU,cY]
    rw[oq,cY]at gY;obtain⟨af,aj,mq⟩:=drop_cons gY;refine bn.yield rfl (by simp) rfl rfl ?_;have aF:=vJ k af cU M1 bO kq;rw[aj]at aF;refine Fu.mk M1 [] _ (by simp) aF ?_;rintro v ev ez eM (⟨rfl,pg⟩ | ⟨rfl,ae⟩);·refine aU.mk (λh=>by simp at h) (λ_=>?_);refine bd.mk _ (cx (i:=j) (by omega)) ?_;exact⟨(j+1,k+1,ev,ez),⟨⟨by simp only;omega,λb o h=>eM b o (bO b o h),pg,af,mq⟩,by simp only;omega⟩,.perm (by simp) .refl,ey,.nil⟩
    ·refine aU.mk (λ_=>?_) (λh=>by simp at h);exact⟨_,_,.perm (by simp) .refl,.inr ae⟩
   ·have oq:ht (t.ns.drop j)=ht (t.ns.drop (j+1)):=by rw[cg];have tY:decide (t.ns[j].k=3)=false:=aa;simp only[ht,Cf,tY];rfl
    rw[oq]at gY;refine bd.mk _ (cx (i:=j) (by omega)) ?_;exact⟨(j+1,k,cU,M1),⟨⟨by simp only;omega,bO,kq,cw,gY⟩,by simp only;omega⟩,.refl,ey,.nil⟩
  ·have cP:t.n<=j:=by simpa using h
   refine⟨_,_,.refl,.inl ?_⟩;rw[ji (show t.ns.length<=j by omega)]at gY;have xt:k=((ht t.ns).map λs=>[Value.string s]).length:=by have:=I1.1 gY;omega
   rw[<-xt];exact kq
section
variable{X:c3}{β:Nat->Nat}{a:Act}{w:World}{F:Fr}{C:dp}{I:aZ}{M:List aB}{o:Oper}{K:fX}
def cV.swap{n:Nat}{og Jw:Obj}{w':World}(h:cV X β a w F C I (⟨n,og⟩::M))(ap:w'.heap.size=w.heap.size)(aq:w'.heap[n]?=some Jw)(ai:∀ b,b≠n->w'.heap[b]?=w.heap[b]?)(aw:n2 w w'):cV X β a w' F C I (⟨n,Jw⟩::M):=by
 have aa:=h.TZ ap ai aw;have fj:(⟨n,og⟩:aB)∈(⟨n,og⟩:aB)::M:=by simp
 have cg:=h.holds.bT;simp only[cY,nh]at cg;have mem:∀ x,x∈(⟨n,Jw⟩:aB)::M->x=⟨n,Jw⟩\/x∈M:=λx ae=>ef.1 ae;exact {
  size:=aa.size
  defers:=by
   obtain⟨a8,az,aE,bz⟩:=aa.defers;obtain⟨afO,f1,f2,f3⟩:=h.defers;refine⟨a8,az,aE,λr ak=>{ bz r ak with eK:=λx ae=>?_ }⟩;rcases mem x ae with rfl | ae
   ·have cT:a8=afO:=by
     have:=az.symm.trans f1;have Jx:∀ l cR:List Nat,l.map w0=cR.map w0->l=cR:=by
      intro l
      induction l with
      |nil=>intro cR h;cases cR with
       |nil=>rfl| cons=>simp at h
      |cons y l a7=>intro cR h;cases cR with
       |nil=>simp at h
       |cons z cR=>
        simp only[cY,y2,w0,Deferred.mk.injEq]at h;have aF:y=z:=by simpa using h.1
        rw[aF,a7 cR h.2]
     exact Jx _ _ this
    subst cT;exact(f3 r ak).eK ⟨n,og⟩ fj
   ·exact(bz r ak).eK x ae
  holds:={
   i:=aa.holds.i
   m:=λx ae=>by
    rcases mem x ae with rfl | ae;·exact aq
    ·exact aa.holds.m x ae
   d:=λx ae=>by
    rcases mem x ae with rfl | ae;·exact h.holds.d ⟨n,og⟩ fj
    ·exact aa.holds.d x ae
   bT:=by simpa using cg }
  al:=h.al
  ck:=λs cs lJ=>by
   have qU:=h.ck s cs lJ;refine { aa.ck s cs lJ with eK:=λx ae=>?_ };rcases mem x ae with rfl | ae;·exact qU.eK ⟨n,og⟩ fj
   ·exact(aa.ck s cs lJ).eK x ae
  inj:=h.inj
  hI:=h.hI
  hq:=h.hq
  own:=λx ae=>by
   rcases mem x ae with rfl | ae;·exact h.own ⟨n,og⟩ fj
   ·exact aa.own x ae
  du:=aa.du
  out:=aa.out
  sz:=aa.sz }
def ov(l:List (ByteArray×Int)):Nat->List MapEntry
 |i=>match l with
  |[]=>[]| p::l=>{ key:=.string p.1,val:=.int .i64 p.2,born:=i }::ov l (i+1)
def iW(l:List (ByteArray×Int)):Obj:=.map (ov l 0).toArray l.length
def ee(s:ByteArray):List (ByteArray×Int)->Option Int
 |[]=>none| p::l=>bif decide (s=p.1)then some p.2 else ee s l
def afP(l:List (ByteArray×Int))(p:ByteArray×Int):∀ i,ov (l++[p]) i=ov l i++[{ key:=.string p.1,val:=.int .i64 p.2,born:=i+l.length }]:=by
 induction l with
 |nil=>intro i;simp[ov]| cons q l a7=>intro i;simp only[qZ,ov,a7,ea,y2,true_and,List.append_cancel_left_eq,MapEntry.mk.injEq,and_true];omega
def bytes_beq(a b:ByteArray):(a == b)=decide (a=b):=by
 rw[oY];simp only[eU];constructor
 ·intro h
  first | exact eq_of_beq h | exact tM (eq_of_beq (a:=a.data) (b:=b.data) h)
 ·rintro rfl
  first | exact Ce _ | exact Ce a.data
def Jy(s:ByteArray):∀ (l:List (ByteArray×Int)) (i j:Nat),∃ r,Instr.findNow .string (.string s) (ov l i) j=some r/\r.map (·.2)=(ee s l).map (Value.int .i64)
 |[],i,j=>⟨none,rfl,rfl⟩
 |p::l,i,j=>by
  obtain⟨r,aa,ab⟩:=Jy s l (i+1) (j+1);unfold ov Instr.findNow;simp only[Instr.sameNow,bytes_beq];cases ai:decide (s=p.1)with
  |true=>exact⟨_,rfl,by simp[ee,ai]⟩| false=>exact⟨r,aa,by simp only[ee,ai,bh];exact ab⟩
def bn.makeMap(aN:c2 X.P X.E){t:Nat}{r:Operand}(aw:o.op=.makeMap t (some r))(ah:∀ d,o.dst=some d->d<X.n){e:Nat}(ay:X.E t=some dk)(dW:dk.bE=.map k e)
  {q:IntKind} {n:Int} (ak:bB F r=.val (.int q n)) (h:∀ b,K (put o.dst (.val (.map (some b))) F) C I (⟨b,iW []⟩::M)):bn X o F C I M K:=by
 refine⟨λa w Q ⟨β,a5⟩=>?_⟩;obtain⟨d,fk,ft⟩:=(aN _ _ ay).fi;have aa:d=.map k e:=by rw[dW]at ft;cases d<;>simp_all[e8]
 subst aa;have NT:=dh a5.al ak;refine il (by rw[aw];simp) (v:=.map (some w.heap.size)) (w':=w.alloc (.map #[] 0)) ?_ ⟨_,_,_,_,⟨β,cV.put (x:=.val (.map (some w.heap.size))) (a5.o0 (iW [])) ah rfl⟩,h _⟩;unfold execOp;simp only[aw,ka,NT];simp[Instr.makeMap,run_underlying fk,asInt,n4]
def bn.lookup(aN:c2 X.P X.E){t:Nat}(aw:o.op=.lookup t x y true)(ah:∀ d,o.dst=some d->d<X.n){e:Nat}(ay:X.E t=some dk)(dW:dk.bE=.map k e)(af:X.E k=some tb)(g7:tb.bE=.string)(bf:∀ w,(zeroValue e).run X.P w=.ok (.int .i64 0) w){g:Nat}(ae:bB F x=.val (.map (some g)))(aF:bB F y=.val (.string s))(a1:(⟨g,iW l⟩:aB)∈M)
  (h:K (put o.dst (.val (.tuple #[.int .i64 ((ee s l).getD 0),.bool (ee s l).isSome])) F) C I M):bn X o F C I M K:=by
 refine⟨λa w Q ⟨β,a5⟩=>?_⟩;obtain⟨d,fk,ft⟩:=(aN _ _ ay).fi;have aa:d=.map k e:=by rw[dW]at ft;cases d<;>simp_all[e8]
 subst aa;obtain⟨kx,r7,jk⟩:=(aN _ _ af).fi;have ab:kx=.string:=by rw[g7]at jk;cases kx<;>simp_all[e8]
 subst ab;have au:w.heap[g]?=some (.map (ov l 0).toArray l.length):=a5.holds.m _ a1;have ex:=dh a5.al ae;have mM:=dh a5.al aF;obtain⟨r,ve,nG⟩:=Jy s l 0 0;have aA:(Instr.checkKey (ov l 0).toArray.isEmpty 10000 k (.string s)).run X.P w=.ok () w:=CS (k:=.string s) r7 (by simp[MapKept.IsKey]) _ 9999;have uo:(Instr.findKey k (.string s) (ov l 0)).run X.P w=.ok r w:=CT r7 ve;have eV:(Instr.lookup t (.map (some g)) (.string s) true).run X.P w=.ok (.tuple #[.int .i64 ((ee s l).getD 0),.bool (ee s l).isSome]) w:=by
  unfold Instr.lookup;simp only[cm,run_underlying fk,b3,CO au,c9,aA,uo];cases r with
  |none=>
   cases av:ee s l with
   |none=>simp[bf]| some v=>rw[av]at nG;simp at nG
  |some p=>
   cases av:ee s l with
   |none=>rw[av]at nG;simp at nG| some v=>rw[av]at nG;simp only[ka,j']at nG;simp[nG]
 refine vc a5 ah (by rw[aw];simp) ?_ h;unfold execOp;simp only[aw,ex,mM,cm,eV,b3,c9]
def bn.Vc(aN:c2 X.P X.E){t:Nat}{z:Operand}(aw:o.op=.mapUpdate t x y z)(ah:o.dst=none){e:Nat}(ay:X.E t=some dk)(dW:dk.bE=.map k e)(af:X.E k=some tb)(g7:tb.bE=.string)
  {g:Nat} {v:Int} (ae:bB F x=.val (.map (some g))) (aF:bB F y=.val (.string s)) (An:bB F z=.val (.int .i64 v)) (av:ee s l=none)
  {Mr:List aB} (a1:M.Perm (⟨g,iW l⟩::Mr)) (h:K F C I (⟨g,iW (l++[(s,v)])⟩::Mr)):bn X o F C I M K:=by
 refine⟨λa w Q ⟨β,ki⟩=>?_⟩;have a5:cV X β a w F C I (⟨g,iW l⟩::Mr):=ki.h8 (.perm a1 .refl);obtain⟨d,fk,ft⟩:=(aN _ _ ay).fi;have aa:d=.map k e:=by rw[dW]at ft;cases d<;>simp_all[e8]
 subst aa;obtain⟨kx,r7,jk⟩:=(aN _ _ af).fi;have ab:kx=.string:=by rw[g7]at jk;cases kx<;>simp_all[e8]
 subst ab;have au:w.heap[g]?=some (.map (ov l 0).toArray l.length):=a5.holds.m ⟨g,iW l⟩ (by simp);have ex:=dh a5.al ae;have mM:=dh a5.al aF;have pz:=dh a5.al An;obtain⟨r,ve,nG⟩:=Jy s l 0 0;have ak:r=none:=by
  rw[av]at nG;cases r with
  |none=>rfl| some _=>simp at nG
 subst ak;have aA:(Instr.checkKey false 10000 k (.string s)).run X.P w=.ok () w:=CS (k:=.string s) r7 (by simp[MapKept.IsKey]) _ 9999;have uo:(Instr.findKey k (.string s) (ov l 0)).run X.P w=.ok none w:=CT r7 ve;have gG:iW (l++[(s,v)])=.map ((ov l 0).toArray.push { key:=.string s,val:=.int .i64 v,born:=l.length }) (l.length+1):=by unfold iW;rw[afP];simp
 have eV:(Instr.mapUpdate t (.map (some g)) (.string s) (.int .i64 v)).run X.P w=.ok () { w with heap:=w.heap.setIfInBounds g (iW (l++[(s,v)])) }:=by unfold Instr.mapUpdate;simp only[cm,run_underlying fk,b3,CO au,aA,uo,Nv _ au,gG]
 have gU:=MapKept.heap_set (o':=iW (l++[(s,v)])) au;refine Cj (by rw[aw];simp) (w':={ w with heap:=w.heap.setIfInBounds g (iW (l++[(s,v)])) }) ?_ ⟨F,C,I,_,⟨β,?_⟩,h⟩
 ·unfold execOp;simp only[aw,ex,mM,pz,cm,eV,b3,c9]
 ·rw[ah];exact a5.swap (by simp) gU.1 gU.2 ⟨rfl,rfl⟩
end
def qi:Nat->List aQ->List (Nat×aS)
 |_,[]=>[]| i,d::ds=>d.t.ns.map (λn=>(i,n))++qi (i+1) ds
def F2:∀ (ds:List aQ) (i:Nat),tf i ds=(qi i ds).map λp=>[.int .i64 p.1,p.2.val]
 |[],i=>rfl| d::ds,i=>by simp only[tf,qi,e7,jl,F2 ds (i+1)];rfl
def ow(ds:List aQ):Bool:=ds.all λd=>kl d.name&&normal d.t
def ls:List (ByteArray×Int)->Nat->List aQ->Option (List (ByteArray×Int))
 |a4,_,[]=>some a4| a4,i,d::ds=>bif (ee d.name a4).isSome then none else ls (a4++[(d.name,(i:Int))]) (i+1) ds
def zd(a4:List (ByteArray×Int))(n:aS):Bool:=!decide (n.k=3)||(ee n.t a4).isSome
def q'(a4:List (ByteArray×Int))(ds:List aQ):Bool:=(qi 0 ds).all λp=>zd a4 p.2
def dF(ax:List Int)(g:bJ):Int:=
 bif decide ((g.n:Int)=0)then 4 else bif !ow g.ds then 4 else bif nF ax g then 40 else
 match ls [] 0 g.ds with
 |none=>6| some a4=>bif q' a4 g.ds then 0 else 41
def uq(b:Nat)(e:Int):aB:=⟨b,.cells #[.int .i64 e] 31 (0,0)⟩
def AS{b:Nat}{e:Int}(h:uq b e∈M):cr I M ⟨b,0,none⟩ 1 [.int .i64 e]:=
 ⟨rfl,_,_,_,.inr ⟨_,h,rfl,rfl⟩,rfl,rfl⟩
def F3(w:World):(zeroValue 3).run Tryz.prog w=.ok (.int .i64 0) w:=by
 have h:(Tryz.prog.info? 3).map (λi=>i.zero)=some (some (.int .i64 0)):=by kernel_rfl
 obtain⟨i,aa,ab⟩:=u6.1 h;simp[zeroValue,typeInfo,aa,ab]
def F4(bp:e4 I ax)(au:g.ok I):Spec Tryz.prog 36 [g.val] I [] (λv I' M'=>v=.int .i64 (dF ax g)/\(∀ b o,I b=some o->I' b=some o)/\M'=[]):=by
 refine bN [2,5] aV Tryz.func36 rfl rfl rfl ?_;intro B ar;have eH:=au.n;have hz:=au.a8.cap;refine b8.mk λcd gq NU=>?_;refine aU.mk (λaa=>?_) (λaa=>?_)
 ·refine cp.mk [] [] _ _ rfl rfl (bS rfl) rfl ?_;refine aI.mk _ (AS (b:=cd) (e:=4) (.head _)) ?_;refine⟨_,_,.sub (fZ _) .refl,?_,λ_ _ h=>h,rfl⟩;rw[dF,aa];rfl
 ·have jV:g.n≠0:=by simp at aa;omega
  refine c4.inv (ι:=Nat) (λi=>{ bu:=[(1,.ref 1 0),(2,.val (ptr cd)),(19,.val (.slice g.a g.n g.c)),(20,.val (.int .i64 g.n)),(21,.val (.int .i64 i))],cl:=[(1,[.slice g.a g.n g.c])],cS:=I,db:=[uq cd 0] }) (λi=>i<=g.n/\ow (g.ds.take i)=true) (λi=>g.n-i) ?_ ?_;·exact⟨0,⟨by simp,rfl⟩,.refl,gS,.cons rfl .nil⟩
  ·rintro i⟨hi,hr⟩;refine aU.mk (λh=>?_) (λh=>?_)
   ·have aR:i<g.n:=by simpa using h
    have bZ:i<g.ds.length:=by omega
    obtain⟨ad,bF,bk⟩:=au.a8.row aQ.cD aR bZ;have eS:g.ds[i]∈g.ds:=cJ bZ;have bad:(kl g.ds[i].name&&normal g.ds[i].t)=false->dF ax g=4:=λai=>by
     have:ow g.ds=false:=by unfold ow;rw[Jk];exact⟨_,eS,by simp[ai]⟩
     rw[dF,aa,this];rfl
    refine bi.mk ad i bF rfl aR ?_;refine aI.mk _ (bk _) ?_;refine a9.mk [] [uq cd 0] _ (.refl _) (Nf _ g.ds[i].name) ?_;rintro v I' M' -⟨rfl,rfl,rfl⟩;refine b4.mk (λab=>?_) (λab=>?_)
    ·have hm:kl g.ds[i].name=true:=by simpa using ab
     refine a9.mk [] [uq cd 0] _ (.refl _) (afG bp.c (au.ds _ eS).t) ?_;rintro v I' M' -⟨rfl,rfl,rfl⟩;refine aU.mk (λag=>?_) (λag=>?_)
     ·have dB:normal g.ds[i].t=false:=by simpa using ag
      refine cp.mk [] [] _ _ rfl rfl (bS rfl) rfl ?_;refine aI.mk _ (AS (b:=cd) (e:=4) (.head _)) ?_;refine⟨_,_,.sub (fZ _) .refl,?_,λ_ _ h=>h,rfl⟩;rw[bad (by rw[hm,dB];rfl)];rfl
     ·have dB:normal g.ds[i].t=true:=by simpa using ag
      refine bd.mk _ (cx (i:=i) (by omega)) ?_;refine⟨i+1,⟨⟨by omega,?_⟩,by omega⟩,.refl,gS,.cons rfl .nil⟩;unfold ow at hr |-;rw[gf bZ,FM,hr];simp[hm,dB]
    ·have hm:kl g.ds[i].name=false:=by simpa using ab
     refine cp.mk [] [] _ _ rfl rfl (bS rfl) rfl ?_;refine aI.mk _ (AS (b:=cd) (e:=4) (.head _)) ?_;refine⟨_,_,.sub (fZ _) .refl,?_,λ_ _ h=>h,rfl⟩;rw[bad (by rw[hm];rfl)];rfl
   ·have cP:g.n<=i:=by simpa using h
    rw[eW (by omega)]at hr;refine a9.mk [] [uq cd 0] _ (.refl _) (afJ bp au) ?_;rintro v cU M' -⟨rfl,bO,rfl⟩;refine aU.mk (λab=>?_) (λab=>?_);·refine cp.mk [] [] _ _ rfl rfl (bS rfl) rfl ?_;refine aI.mk _ (AS (b:=cd) (e:=40) (.head _)) ?_;refine⟨_,_,.sub (fZ _) .refl,?_,bO,rfl⟩;rw[dF,aa,hr,ab];rfl
    ·have F5:dF ax g=match ls [] 0 g.ds with
       |none=>6| some a4=>bif q' a4 g.ds then 0 else 41:=by
      rw[dF,aa,hr,ab];rfl
     rw[F5];have kr:=au.mono bO;refine bn.makeMap aV rfl (by simp) rfl rfl rfl λiX=>?_;refine b8.mk λeI F6 Jz=>?_;refine cp.mk [] [⟨iX,iW []⟩,uq cd 0] _ _ rfl rfl (bS rfl) rfl ?_;refine c4.inv (ι:=Nat×List (ByteArray×Int)) (λx=>{ bu:=[(1,.ref 1 0),(2,.val (ptr cd)),(5,.val (ptr eI)),(43,.val (.slice g.a g.n g.c)),(44,.val (.int .i64 g.n)),(45,.val (.int .i64 x.1))],cl:=[(1,[.slice g.a g.n g.c])],cS:=cU,db:=[⟨eI,.cells #[.map (some iX)] 96 (0,0)⟩,⟨iX,iW x.2⟩,uq cd 0] }) (λx=>x.1<=g.n/\ls [] 0 g.ds=ls x.2 x.1 (g.ds.drop x.1)) (λx=>g.n-x.1) ?_ ?_;·exact⟨(0,[]),⟨by simp,rfl⟩,.refl,kf,.cons rfl .nil⟩
     ·rintro⟨i,a4⟩⟨hi,p7⟩;simp only at hi p7;refine aU.mk (λh=>?_) (λh=>?_)
      ·have aR:i<g.n:=by simpa using h
       have bZ:i<g.ds.length:=by omega
       obtain⟨ad,bF,bk⟩:=kr.a8.row aQ.cD aR bZ;have ko:g.ds.drop i=g.ds[i]::g.ds.drop (i+1):=eE bZ;refine bi.mk ad i bF rfl aR ?_;refine aI.mk _ (bk _) ?_;refine aI.mk [.map (some iX)] ⟨rfl,_,_,_,.inr ⟨_,.head _,rfl,rfl⟩,rfl,rfl⟩ ?_;refine bn.lookup aV rfl (by simp) rfl rfl rfl rfl (λw=>F3 w) (l:=a4) (g:=iX) rfl rfl (by simp) ?_;refine aU.mk (λag=>?_) (λag=>?_);·refine cp.mk [⟨eI,.cells #[.map (some iX)] 96 (0,0)⟩,⟨iX,iW a4⟩] [] _ _ rfl rfl (bS rfl) rfl ?_;refine aI.mk _ (AS (b:=cd) (e:=6) (.tail _ (.tail _ (.head _)))) ?_;refine⟨_,_,.sub (fZ _) .refl,?_,bO,rfl⟩;rw[p7,ko,ls,ag];rfl
       ·have av:ee g.ds[i].name a4=none:=by simpa using ag
        refine aI.mk [.map (some iX)] ⟨rfl,_,_,_,.inr ⟨_,.head _,rfl,rfl⟩,rfl,rfl⟩ ?_;refine bn.Vc aV rfl rfl rfl rfl rfl rfl rfl rfl rfl av (Mr:=[⟨eI,.cells #[.map (some iX)] 96 (0,0)⟩,uq cd 0]) (List.Perm.swap _ _ _) ?_;refine bd.mk _ (cx (i:=i) (by omega)) ?_;refine⟨(i+1,a4++[(g.ds[i].name,(i:Int))]),⟨⟨by simp only;omega,?_⟩,by simp only;omega⟩,.perm (List.Perm.swap _ _ _) .refl,kf,.cons rfl .nil⟩;simp only;rw[p7,ko,ls,ag];rfl
      ·have afQ:g.n<=i:=by simpa using h
       have ft:ls [] 0 g.ds=some a4:=by rw[p7,ji (by omega),ls]
       rw[ft];refine a9.mk [] [⟨eI,.cells #[.map (some iX)] 96 (0,0)⟩,⟨iX,iW a4⟩,uq cd 0] _ (.refl _) (afK g) ?_;rintro v ev ez -⟨cK,rfl,NV,eM,rfl⟩;have jF:=kr.mono eM;have JA:∀ b o,I b=some o->ev b=some o:=λb o h=>eM _ _ (bO _ _ h);refine c5.range aV rfl rfl rfl .refl (afL jF NV) (λvs h=>?_) (λk I' M'=>(∀ b o,ev b=some o->I' b=some o)/\((qi 0 g.ds).take k).all (λp=>zd a4 p.2)=true/\M'=[⟨eI,.cells #[.map (some iX)] 96 (0,0)⟩,⟨iX,iW a4⟩,uq cd 0]) (λex I' M'=>ex=.ret/\(∀ b o,ev b=some o->I' b=some o)/\q' a4 g.ds=false/\M'=[⟨eI,.cells #[.map (some iX)] 96 (0,0)⟩,⟨iX,iW a4⟩,uq cd 41]) ⟨λ_ _ h=>h,rfl,rfl⟩ ?_ ?_ ?_;·rw[F2]at h;obtain⟨p,_,rfl⟩:=dA.1 h;rfl
       ·rintro k af I' M' -⟨mQ,bj,rfl⟩l B ar hY;have Vd:k<(qi 0 g.ds).length:=by simpa[F2]using af
        generalize aD:(qi 0 g.ds)[k]=p;have aj:(tf 0 g.ds)[k]=[.int .i64 p.1,p.2.val]:=by simp only[F2,lq,aD]
        rw[aj];have next:zd a4 p.2=true->((qi 0 g.ds).take (k+1)).all (λp=>zd a4 p.2)=true:=λh=>by rw[gf Vd,FM,bj,aD];simp[h]
        refine aU.mk (λag=>?_) (λag=>?_)
        ·refine⟨_,_,.refl,mQ,next ?_,rfl⟩;have gv:decide (p.2.k=3)=false:=by simpa using ag
         simp[zd,gv]
        ·have gv:decide (p.2.k=3)=true:=by simpa using ag
         refine aI.mk [.map (some iX)] ⟨rfl,_,_,_,.inr ⟨_,.head _,rfl,rfl⟩,rfl,rfl⟩ ?_;refine bn.lookup aV rfl (by simp) rfl rfl rfl rfl (λw=>F3 w) (l:=a4) (g:=iX) rfl rfl (by simp) ?_;refine aU.mk (λaW=>?_) (λaW=>?_)
         ·refine cp.mk [⟨eI,.cells #[.map (some iX)] 96 (0,0)⟩,⟨iX,iW a4⟩] [] _ _ rfl rfl (bS rfl) rfl ?_;refine⟨_,_,.refl,rfl,mQ,?_,rfl⟩;unfold q';rw[Jk];have NW:(ee p.2.t a4).isSome=false:=by simpa using aW
          exact⟨p,by rw[<-aD];exact cJ Vd,by simp[zd,gv,NW]⟩
         ·have NW:(ee p.2.t a4).isSome=true:=by simpa using aW
          exact⟨_,_,.refl,mQ,next (by simp[zd,NW]),rfl⟩
       ·rintro I' M' -⟨mQ,bj,rfl⟩;have NX:q' a4 g.ds=true:=by unfold q';rw[eW (by simp[F2])]at bj;exact bj
        refine cp.mk [⟨eI,.cells #[.map (some iX)] 96 (0,0)⟩,⟨iX,iW a4⟩] [] _ _ rfl rfl (bS rfl) rfl ?_;refine aI.mk _ (AS (b:=cd) (e:=0) (.tail _ (.tail _ (.head _)))) ?_;refine⟨_,_,.sub (fZ _) .refl,?_,λb o h=>mQ _ _ (JA _ _ h),rfl⟩;simp only[NX];rfl
       ·rintro ex I' M' -⟨rfl,mQ,NX,rfl⟩;refine⟨by simp,?_⟩;refine aI.mk _ (AS (b:=cd) (e:=41) (.tail _ (.tail _ (.head _)))) ?_;refine⟨_,_,.sub (fZ _) .refl,?_,λb o h=>mQ _ _ (JA _ _ h),rfl⟩;simp only[NX];rfl
structure jn where
 a:Option Addr
 n:Nat
 c:Nat
 l:List Int
def jn.val(r:jn):Value:=.slice r.a r.n r.c
structure jn.ok(I:aZ)(r:jn):Prop where
 a8:eB I r.a r.n r.c 1 8 (r.l.map (.int .i64 ·))
def jn.ok.n{r:jn}(h:r.ok I):r.l.length=r.n:=by have:=h.a8.len;simpa using this
def jn.ok.mono{r:jn}(h:r.ok I)(bA:∀ b o,I b=some o->I' b=some o):r.ok I':=⟨h.a8.mono bA⟩
structure fL where
 rows:List jn
 a:Option Addr
 n:Nat
 c:Nat
def fL.val(x:fL):Value:=.slice x.a x.n x.c
structure fL.ok(I:aZ)(x:fL):Prop where
 a8:eB I x.a x.n x.c 1 24 (x.rows.map jn.val)
 rows:∀ r∈x.rows,r.ok I
def fL.ok.n{x:fL}(h:x.ok I):x.rows.length=x.n:=by have:=h.a8.len;simpa using this
def fL.h2(x:fL):List (List Int):=x.rows.map (·.l)
def a'.JB{e b:Nat}(h:os.ok size xs)(ai:os.n*b<=140737488355328)(bA:∀ g,os.a=some g->I g=none)(Mr:List aB) :
  ∃ I',jd [] I (os.aP e++Mr) I' Mr/\(∀ b o,I b=some o->I' b=some o)/\eB I' (os.a.map λg=>⟨g,0,none⟩) os.n os.c size b xs:=by
 obtain⟨a,n,c,aK⟩:=os;cases a with
 |none=>obtain⟨aa,ab⟩:=h.nil rfl;simp only at aa ab;subst aa;subst ab;exact⟨I,.refl,λ_ _ h=>h,h.len,⟨cj _,by simp⟩,.inl rfl⟩
 |some g=>obtain⟨aa,ab,ag,aW⟩:=h.cap g rfl;have au:=bA g rfl;exact⟨ins I g (.cells aK.toArray e (0,0)),.nk rfl (by simp) .refl,lr au,h.len,⟨ab,ai⟩,.inr ⟨⟨g,0,none⟩,rfl,rfl,_,_,_,q5 ..,by simpa using aW⟩⟩
def a'.Ve{l:List Int}{e:Nat}(h:os.ok 1 (l.map (.int .i64 ·)))(ai:os.n*8<=140737488355328)(bA:∀ g,os.a=some g->I g=none)(Mr:List aB) :
  ∃ (I':aZ) (r:jn),jd [] I (os.aP e++Mr) I' Mr/\(∀ b o,I b=some o->I' b=some o)/\os.val=r.val/\r.ok I'/\r.l=l:=by
 obtain⟨I',aa,ab,ag⟩:=a'.JB (b:=8) h ai bA Mr;exact⟨I',⟨_,_,_,l⟩,aa,ab,rfl,⟨ag⟩,rfl⟩
def lu:a':=⟨none,0,0,[]⟩
def mT(size:Nat):lu.ok size []:=⟨by simp[lu],λ_=>⟨rfl,rfl⟩,λg h=>by cases h⟩
def NY(ca:os.ok 1 xs){g c:Nat}{aK:List Value}(aa:aK.length=c*1)(ab:os.n+1<=c)(ag:c<=maxLen)(aW:aK.take ((os.n+1)*1)=xs++[v]) :
  a'.ok ⟨some g,os.n+1,c,aK⟩ 1 (xs++[v]):=by
 have av:=ca.len;refine⟨?_,(λh=>by cases h),λbI q6=>⟨aa,ab,ag,aW⟩⟩;rw[cI,av];simp
def a'.ok.vM{l:List Int}(h:os.ok 1 (l.map (Value.int .i64))):os.n=l.length:=by have:=h.len;simp at this;omega
def Vf(a c:α)(L:List α):(a::(L++[c])).Perm (L++[c,a]):=by have h:=(UL a (L++[c])).symm;rwa [fq]at h
def gj(wh:Bool):Nat->List Bool->List Int
 |_,[]=>[]| i,b::s=>bif b == wh then(i:Int)::gj wh (i+1) s else gj wh (i+1) s
def NZ(wh b:Bool):∀ (s:List Bool) (i:Nat),gj wh i (s++[b])=gj wh i s++(bif b == wh then [((i+s.length:Nat):Int)]else [])
 |[],i=>by
  show(bif b == wh then((i:Nat):Int)::gj wh (i+1) []else gj wh (i+1) [])=_;cases b == wh<;>simp[gj]
 |c::s,i=>by
  have:=NZ wh b s (i+1);rw[qZ,gj,gj,this];cases c == wh<;>simp[Cg,Nat.add_left_comm]
def N0(wh:Bool):∀ (s:List Bool) (i:Nat),(gj wh i s).length<=s.length
 |[],i=>by simp[gj]
 |c::s,i=>by
  have:=N0 wh s (i+1);unfold gj;cases c == wh<;>simp<;>omega
structure ur where
 a:Option Addr
 n:Nat
 c:Nat
 l:List Bool
def ur.val(r:ur):Value:=.slice r.a r.n r.c
structure ur.ok(I:aZ)(r:ur):Prop where
 a8:eB I r.a r.n r.c 1 1 (r.l.map Value.bool)
def ur.ok.n{r:ur}(h:r.ok I):r.l.length=r.n:=by have:=h.a8.len;simpa using this
def Vg{r:ur}(ak:r.ok I)(aq:r.n<=1099511627776)(wh:Bool):Spec Tryz.prog 112 [r.val,.bool wh] I [] λv I' M'=>(∀ b o,I b=some o->I' b=some o)/\∃ x:jn,v=x.val/\x.ok I'/\x.l=gj wh 0 r.l/\M'=[]:=by
 refine bN [] aV Tryz.func112 rfl rfl rfl ?_;intro B ar;have jE:=ak.n;refine c4.inv (ι:=Nat×a') (λx=>{ bu:=[(1,.val (.bool wh)),(5,.val x.2.val),(8,.val r.val),(9,.val (.int .i64 r.n)),(10,.val (.int .i64 x.1))],cS:=I,db:=x.2.aP 3 }) (λx=>x.1<=r.n/\x.2.ok 1 ((gj wh 0 (r.l.take x.1)).map (.int .i64 ·))/\∀ g,x.2.a=some g->I g=none) (λx=>r.n-x.1) ?_ ?_
 ·exact⟨(0,lu),⟨by simp,mT 1,λg h=>by cases h⟩,.refl,gS,.nil⟩
 ·rintro⟨i,os⟩⟨hi,ca,bA⟩;simp only at hi ca bA;have C2:=ca.vM;have jf:=N0 wh (r.l.take i) 0;have r4:=Aw i r.l;refine aU.mk (λh=>?_) (λh=>?_)
  ·have aR:i<r.n:=by simpa using h
   have bZ:i<r.l.length:=by omega
   obtain⟨ad,bF,bk⟩:=ak.a8.one aR bZ;have g8:=NZ wh r.l[i] (r.l.take i) 0;rw[<-gf bZ,CP (by omega),c0]at g8;refine bi.mk ad i bF rfl aR ?_;refine aI.mk _ (bk _) ?_;refine aU.mk (λab=>?_) (λab=>?_);·rw[ab,bl]at g8;refine b8.mk λbW gJ te=>?_;refine bn.I5 aV rfl (by simp) (e:=3) rfl rfl rfl os ca rfl (m:=1) rfl (bV:=[.int .i64 i]) (by decide) (dO (b:=bW) (cs:=[.int .i64 i]) (k:=0) (n:=1) (T:=3) (.head _) (by simp)) rfl (Mr:=[⟨bW,.cells #[.int .i64 i] 3 (0,0)⟩]) (hX (l₁:=[_])) (by simp only[maxLen];omega) (by show(os.n+1)*8<=_;omega) ?_;intro dv c' hN N1 ej ed fJ gI;refine bd.mk _ (cx (i:=i) (by omega)) ?_;refine⟨(i+1,⟨some dv,os.n+1,c',hN⟩),⟨⟨by simp only;omega,?_,λg au=>by cases au;exact N1⟩,by simp only;omega⟩,.sub (List.Sublist.cons_cons _ (fZ _)) .refl,gS,.nil⟩;simp only;rw[g8,e7];exact NY ca ej ed fJ gI
   ·rw[ab,bh,eh]at g8;refine bd.mk _ (cx (i:=i) (by omega)) ?_;refine⟨(i+1,os),⟨⟨by simp only;omega,?_,bA⟩,by simp only;omega⟩,.refl,gS,.nil⟩;simp only;rw[g8];exact ca
  ·have cP:r.n<=i:=by simpa using h
   rw[eW (by omega)]at ca jf C2;obtain⟨I',x,hs,kj,lL,ia,F7⟩:=a'.Ve (e:=3) ca (by omega) bA [];rw[eh]at hs;exact⟨_,_,hs,kj,x,lL,ia,F7,rfl⟩
def ra(n:Nat)(s:List Bool)(k:Int):List Bool:=bif decide (0<=k)&&decide (k<n)then s.set k.toNat true else s
def ox(ds:List aQ)(n:Nat)(names:List ByteArray):List Bool:=names.foldl (λs nm=>ra n s (b2 nm ds 0)) (List.replicate n false)
def C3(g:bJ)(t:cB):List Int:=gj true 0 (ox g.ds g.n (ht t.ns))
def Vh(n:Nat)(s:List Bool)(k:Int):(ra n s k).length=s.length:=by
 unfold ra;cases decide (0<=k)&&decide (k<n)<;>simp
def N2(ds:List aQ)(n:Nat)(names:List ByteArray):(ox ds n names).length=n:=by
 have:∀ (names:List ByteArray) (s:List Bool),(names.foldl (λs nm=>ra n s (b2 nm ds 0)) s).length=s.length:=by
  intro names
  induction names with
  |nil=>intro s;rfl| cons nm names a7=>intro s;rw[sC,a7,Vh]
 rw[ox,this];simp
def Vi(au:g.ok I)(aq:g.n<=1099511627776)(ay:t.ok I):Spec Tryz.prog 175 [g.val,t.val] I [] λv I' M'=>(∀ b o,I b=some o->I' b=some o)/\∃ x:jn,v=x.val/\x.ok I'/\x.l=C3 g t/\M'=[]:=by
 refine bN [2,5] aV Tryz.func175 rfl rfl rfl ?_;intro B ar;have eH:=au.n;refine b8.mk λcd gq NU=>?_;refine aI.mk [.slice g.a g.n g.c] (dO (b:=cd) (cs:=[.slice g.a g.n g.c]) (k:=0) (n:=1) (T:=24) (.head _) (by simp)) ?_;refine n1.mk g.n g.n rfl rfl (cj _) (by show 1*g.n<=_;omega) (by omega) ?_;refine b8.mk λb ai ph=>?_;refine b8.mk λeI F6 Jz=>?_;refine cp.mk [] [⟨b,.cells (rowOf [.bool false] (g.n*1)).toArray 4 (0,0)⟩,⟨cd,.cells #[.slice g.a g.n g.c] 24 (0,0)⟩] _ _ rfl rfl (bS rfl) rfl ?_;refine a9.mk [] [⟨eI,.cells #[.slice (some ⟨b,0,none⟩) g.n g.n] 189 (0,0)⟩,⟨b,.cells (rowOf [.bool false] (g.n*1)).toArray 4 (0,0)⟩,⟨cd,.cells #[.slice g.a g.n g.c] 24 (0,0)⟩] _ (.refl _) (afM t) ?_;rintro v cU M1 -⟨afR,rfl,AR,bO,rfl⟩;have kr:=au.mono bO;have td:=ay.mono bO;refine c5.range aV rfl rfl rfl .refl (afN td AR) (λvs h=>?_) (λk I' M'=>(∀ b o,cU b=some o->I' b=some o)/\M'=[⟨eI,.cells #[.slice (some ⟨b,0,none⟩) g.n g.n] 189 (0,0)⟩,ml b (ox g.ds g.n ((ht t.ns).take k)),⟨cd,.cells #[.slice g.a g.n g.c] 24 (0,0)⟩]) (λ_ _ _=>False) ⟨λ_ _ h=>h,?_⟩ ?_ ?_ (λ_ _ _ _ h=>h.elim)
 ·obtain⟨c,_,rfl⟩:=dA.1 h;rfl
 ·show _::_::_=_;rw[yS,fP];simp[ml,ox]
 ·rintro k af I' M' -⟨mQ,rfl⟩l B ar hY;have y0:k<(ht t.ns).length:=by simpa using af
  generalize ae:(ht t.ns)[k]=x;have aj:((ht t.ns).map λs=>[Value.string s])[k]=[.string x]:=by simp[ae]
  rw[aj];have oi:ox g.ds g.n ((ht t.ns).take (k+1))=ra g.n (ox g.ds g.n ((ht t.ns).take k)) (b2 x g.ds 0):=by rw[gf y0,ae];simp[ox,CV]
  have bQ:=N2 g.ds g.n ((ht t.ns).take k);generalize ap:ox g.ds g.n ((ht t.ns).take k)=s at *;rw[oi];refine aI.mk [.slice g.a g.n g.c] ⟨rfl,_,_,_,.inr ⟨_,.tail _ (.tail _ (.head _)),rfl,rfl⟩,rfl,rfl⟩ ?_;refine a9.mk [] [⟨eI,.cells #[.slice (some ⟨b,0,none⟩) g.n g.n] 189 (0,0)⟩,ml b s,⟨cd,.cells #[.slice g.a g.n g.c] 24 (0,0)⟩] _ (.refl _) (NR (kr.mono mQ) x) ?_;rintro v I' M' -⟨rfl,rfl,rfl⟩;refine b4.mk (λaa=>?_) (λaa=>?_)
  ·refine aI.mk [.slice (some ⟨b,0,none⟩) g.n g.n] ⟨rfl,_,_,_,.inr ⟨_,.head _,rfl,rfl⟩,rfl,rfl⟩ ?_;refine aU.mk (λab=>?_) (λab=>?_)
   ·have e3:0<=b2 x g.ds 0:=by simpa using aa
    have dS:b2 x g.ds 0<g.n:=by simpa using ab
    have JC:ra g.n s (b2 x g.ds 0)=s.set (b2 x g.ds 0).toNat true:=by rw[ra,aa,ab];rfl
    refine aI.mk [.slice (some ⟨b,0,none⟩) g.n g.n] ⟨rfl,_,_,_,.inr ⟨_,.head _,rfl,rfl⟩,rfl,rfl⟩ ?_;refine bi.mk ⟨b,0,none⟩ (b2 x g.ds 0).toNat rfl (by omega) (by omega) ?_;refine cp.add [⟨eI,.cells #[.slice (some ⟨b,0,none⟩) g.n g.n] 189 (0,0)⟩] [⟨cd,.cells #[.slice g.a g.n g.c] 24 (0,0)⟩] _ _ rfl ?_ rfl ?_;·simp only[mE,c8];show 0+(b2 x g.ds 0).toNat*1+1<=_;omega
    refine⟨_,_,.refl,mQ,?_⟩;rw[JC];have e:=FD s (b2 x g.ds 0).toNat (by omega) true;simp only[ml];rw[<-e];simp only[c0,fP];rfl
   ·refine⟨_,_,.refl,mQ,?_⟩;have:ra g.n s (b2 x g.ds 0)=s:=by rw[ra,aa,ab];rfl
    rw[this];rfl
  ·refine⟨_,_,.refl,mQ,?_⟩;have:ra g.n s (b2 x g.ds 0)=s:=by rw[ra,aa];rfl
   rw[this];rfl
 ·rintro ev ez -⟨eM,rfl⟩;have JA:∀ b o,I b=some o->ev b=some o:=λb o h=>eM _ _ (bO _ _ h);have afS:(ht t.ns).take ((ht t.ns).map λs=>[Value.string s]).length=ht t.ns:=eW (by simp);rw[afS];have g6:=N2 g.ds g.n (ht t.ns);have eA:C3 g t=gj true 0 (ox g.ds g.n (ht t.ns)):=rfl;generalize ap:ox g.ds g.n (ht t.ns)=s at *;refine aI.mk [.slice (some ⟨b,0,none⟩) g.n g.n] ⟨rfl,_,_,_,.inr ⟨_,.head _,rfl,rfl⟩,rfl,rfl⟩ ?_;refine c4.inv (ι:=Nat×a') (λx=>{ bu:=[(8,.val x.2.val),(32,.val (.slice (some ⟨b,0,none⟩) g.n g.n)),(33,.val (.int .i64 g.n)),(34,.val (.int .i64 x.1))],cS:=ev,db:=x.2.aP 3++[ml b s] }) (λx=>x.1<=g.n/\x.2.ok 1 ((gj true 0 (s.take x.1)).map (.int .i64 ·))/\∀ g,x.2.a=some g->ev g=none) (λx=>g.n-x.1) ?_ ?_
  ·exact⟨(0,lu),⟨by simp,mT 1,λg h=>by cases h⟩,.sub (.cons _ (.cons_cons _ (fZ _))) .refl,ey,.nil⟩
  ·rintro⟨i,os⟩⟨hi,ca,bA⟩;simp only at hi ca bA;have C2:=ca.vM;have jf:=N0 true (s.take i) 0;have r4:=Aw i s;refine aU.mk (λh=>?_) (λh=>?_)
   ·have aR:i<g.n:=by simpa using h
    have bZ:i<s.length:=by omega
    have g8:=NZ true s[i] (s.take i) 0;rw[<-gf bZ,CP (by omega),c0]at g8;refine bi.mk ⟨b,0,none⟩ i rfl rfl aR ?_;refine aI.mk _ (I9 (by simp) bZ) ?_;refine aU.mk (λab=>?_) (λab=>?_);·rw[ab]at g8;refine b8.mk λbW gJ te=>?_;refine bn.I5 aV rfl (by simp) (e:=3) rfl rfl rfl os ca rfl (m:=1) rfl (bV:=[.int .i64 i]) (by decide) (dO (b:=bW) (cs:=[.int .i64 i]) (k:=0) (n:=1) (T:=3) (.head _) (by simp)) rfl (Mr:=[ml b s,⟨bW,.cells #[.int .i64 i] 3 (0,0)⟩]) (Vf _ _ _) (by simp only[maxLen];omega) (by show(os.n+1)*8<=_;omega) ?_;intro dv c' hN N1 ej ed fJ gI;refine bd.mk _ (cx (i:=i) (by omega)) ?_;refine⟨(i+1,⟨some dv,os.n+1,c',hN⟩),⟨⟨by simp only;omega,?_,λg au=>by cases au;exact N1⟩,by simp only;omega⟩,.sub (.cons_cons _ (.cons_cons _ (fZ _))) .refl,ey,.nil⟩;simp only;rw[g8,e7];exact NY ca ej ed fJ gI
    ·rw[ab]at g8;simp only[Bool.false_beq,pT,bh,eh]at g8;refine bd.mk _ (cx (i:=i) (by omega)) ?_;refine⟨(i+1,os),⟨⟨by simp only;omega,?_,bA⟩,by simp only;omega⟩,.refl,ey,.nil⟩;simp only;rw[g8];exact ca
   ·have cP:g.n<=i:=by simpa using h
    rw[eW (by omega)]at ca jf C2;obtain⟨I',x,hs,kj,lL,ia,F7⟩:=a'.Ve (e:=3) ca (by omega) bA [];rw[eh]at hs;exact⟨_,_,.sub (FL _ _) hs,λb o h=>kj _ _ (JA _ _ h),x,lL,ia,F7.trans eA.symm,rfl⟩
def iY(m:List Bool)(k:Nat):Prop:=m.getD k false=true
def iC(m:List Bool)(o:List Int):List Int->List Bool×List Int
 |[]=>(m,o)| k::ks=>bif m.getD k.toNat false then iC m o ks else iC (m.set k.toNat true) (o++[k]) ks
def xB(L:List (List Int)):Nat->List Bool->List Int->List Bool
 |0,m,_=>m
 |f+1,m,o=>match o.getLast? with
  |none=>m| some w=>bif decide (0<(iC m o.dropLast (L.getD w.toNat [])).2.length)then xB L f (iC m o.dropLast (L.getD w.toNat [])).1 (iC m o.dropLast (L.getD w.toNat [])).2 else(iC m o.dropLast (L.getD w.toNat [])).1
def gw(L:List (List Int))(i:Nat):List Bool:=xB L (2*L.length+2) ((List.replicate L.length false).set i true) [(i:Int)]
def qj:List Bool->Nat
 |[]=>0| b::s=>(bif b then 0 else 1)+qj s
def N3:∀ (m:List Bool) (k:Nat),k<m.length->m.getD k false=false->qj (m.set k true)+1=qj m
 |b::m,0,_,h=>by
  have:b=false:=by simpa using h
  subst this;simp[qj];omega
 |b::m,k+1,af,h=>by have:=N3 m k (by simpa using af) (by simpa using h);simp only[List.set_cons_succ,qj];omega
def Vj(m:List Bool):qj m<=m.length:=by
 induction m with
 |nil=>simp[qj]
 |cons b m a7=>
  simp only[qj,ea];cases b<;>simp<;>omega
def JD{a:Nat}(af:k<m.length):iY (m.set k true) a ↔ a=k\/iY m a:=by
 unfold iY;simp only[cC,mh];by_cases e:k=a
 ·subst e;simp[af]
 ·rw[cb e];constructor
  ·exact .inr
  ·rintro(h | h)
   ·exact(e h.symm).elim
   ·exact h
def valid(n:Nat)(l:List Int):Prop:=∀ k∈l,0<=k/\k<n
structure afT(m:List Bool)(o ks:List Int)(r:List Bool×List Int):Prop where
 len:r.1.length=m.length
 mono:∀ a,iY m a->iY r.1 a
 all:∀ k∈ks,iY r.1 k.toNat
 only:∀ a,iY r.1 a->iY m a\/((a:Int)∈ks/\(a:Int)∈r.2)
 mI:∀ k∈o,k∈r.2
 bV:∀ k∈r.2,k∈o\/(k∈ks/\iY r.1 k.toNat)
 FV:2*qj r.1+r.2.length<=2*qj m+o.length
def N4{n:Nat}:∀ (ks:List Int) (m:List Bool) (o:List Int),m.length=n->valid n ks->afT m o ks (iC m o ks)
 |[],m,o,_,_=>⟨rfl,λ_ h=>h,λk af=>by simp at af,λa h=>.inl h,λk h=>h,λk h=>.inl h,cj _⟩
 |k::ks,m,o,hm,aj=>by
  have af:=aj k (by simp);have kL:valid n ks:=λx ae=>aj x (by simp[ae]);have cw:k.toNat<m.length:=by omega
  unfold iC;cases ai:m.getD k.toNat false with
  |true=>
   have h:=N4 ks m o hm kL;simp only[bl];refine⟨h.len,h.mono,λx ae=>?_,λa aC=>?_,h.mI,λx ae=>?_,h.FV⟩
   ·rcases ef.1 ae with rfl | ae
    ·exact h.mono _ ai
    ·exact h.all x ae
   ·rcases h.only a aC with aa | aa
    ·exact .inl aa
    ·exact .inr ⟨by simp[aa.1],aa.2⟩
   ·rcases h.bV x ae with aa | aa
    ·exact .inl aa
    ·exact .inr ⟨by simp[aa.1],aa.2⟩
  |false=>
   have h:=N4 ks (m.set k.toNat true) (o++[k]) (by simpa using hm) kL;have ap:=N3 m k.toNat cw ai;have JC:iY (iC (m.set k.toNat true) (o++[k]) ks).1 k.toNat:=h.mono _ ((JD cw).2 (.inl rfl));have pA:k∈(iC (m.set k.toNat true) (o++[k]) ks).2:=h.mI k (by simp);simp only[bh];refine⟨by rw[h.len];simp,λa aC=>h.mono a ((JD cw).2 (.inr aC)),λx ae=>?_,λa aC=>?_,λx ae=>h.mI x (by simp[ae]),λx ae=>?_,?_⟩
   ·rcases ef.1 ae with rfl | ae
    ·exact JC
    ·exact h.all x ae
   ·rcases h.only a aC with aa | aa
    ·rcases(JD cw).1 aa with rfl | aa
     ·have e:((k.toNat:Nat):Int)=k:=by omega
      rw[e];exact .inr ⟨by simp,pA⟩
     ·exact .inl aa
    ·exact .inr ⟨by simp[aa.1],aa.2⟩
   ·rcases h.bV x ae with aa | aa
    ·simp only[dQ,fW]at aa;rcases aa with aa | rfl
     ·exact .inl aa
     ·exact .inr ⟨by simp,JC⟩
    ·exact .inr ⟨by simp[aa.1],aa.2⟩
   ·have:=h.FV;simp only[cI,ea,gV]at this;omega
inductive Comes(L:List (List Int))(i:Nat):Nat->Prop
 |self:Comes L i i| next {a k:Nat} (h:Comes L i a) (af:(k:Int)∈L.getD a []):Comes L i k
structure vN(L:List (List Int))(i:Nat)(m:List Bool)(o:List Int):Prop where
 len:m.length=L.length
 val:valid L.length o
 Vk:∀ k∈o,iY m k.toNat
 cl:∀ a,iY m a->(a:Int)∈o\/∀ k∈L.getD a [],iY m k.toNat
 N5:∀ a,iY m a->Comes L i a
 self:iY m i
def afU{a:Nat}(h:iY m a):a<m.length:=by apply Fq;intro bs;unfold iY at h;simp[cC,bs]at h
def vN.step(b9:∀ l∈L,valid L.length l){o:List Int}{w:Int}(h:vN L i m (o++[w])) :
  vN L i (iC m o (L.getD w.toNat [])).1 (iC m o (L.getD w.toNat [])).2/\2*qj (iC m o (L.getD w.toNat [])).1+(iC m o (L.getD w.toNat [])).2.length<2*qj m+(o++[w]).length:=by
 have hw:=h.val w (by simp);have N6:w.toNat<L.length:=by omega
 have JE:L.getD w.toNat []=L[w.toNat]:=by simp[cC,N6]
 have aj:valid L.length (L.getD w.toNat []):=by rw[JE];exact b9 _ (cJ N6)
 have v:=N4 (L.getD w.toNat []) m o h.len aj;have Nl:=h.Vk w (by simp);have afV:=h.N5 _ Nl;refine⟨⟨v.len.trans h.len,λk af=>?_,λk af=>?_,λa aC=>?_,λa aC=>?_,v.mono _ h.self⟩,?_⟩
 ·rcases v.bV k af with aa | aa
  ·exact h.val k (by simp[aa])
  ·exact aj k aa.1
 ·rcases v.bV k af with aa | aa
  ·exact v.mono _ (h.Vk k (by simp[aa]))
  ·exact aa.2
 ·rcases v.only a aC with aa | aa
  ·rcases h.cl a aa with ab | ab
   ·simp only[dQ,fW]at ab;rcases ab with ab | ab
    ·exact .inl (v.mI _ ab)
    ·have e:a=w.toNat:=by omega
     subst e;exact .inr v.all
   ·exact .inr λk af=>v.mono _ (ab k af)
  ·exact .inl aa.2
 ·rcases v.only a aC with aa | aa
  ·exact h.N5 a aa
  ·exact .next afV aa.1
 ·have:=v.FV;simp only[cI,ea,gV];omega
structure N7(L:List (List Int))(i:Nat)(m:List Bool):Prop where
 len:m.length=L.length
 iff:∀ a,iY m a ↔ Comes L i a
def vN.done(b9:∀ l∈L,valid L.length l)(h:vN L i m []):N7 L i m:=by
 refine⟨h.len,λa=>⟨h.N5 a,λaA=>?_⟩⟩
 induction aA with
 |self=>exact h.self
 |next aA af a7=>
  rcases h.cl _ a7 with aa | aa;·simp at aa
  ·simpa using aa _ af
def vN.start(hi:i<L.length):vN L i ((List.replicate L.length false).set i true) [(i:Int)]:=by
 have aq:∀ a,¬ iY (List.replicate L.length false) a:=λa=>by
  unfold iY;by_cases h:a<L.length<;>simp[cC,h]
 have ap:∀ a,iY ((List.replicate L.length false).set i true) a ↔ a=i:=λa=>by rw[JD (by simpa using hi)];exact⟨λh=>h.resolve_right (aq a),.inl⟩
 refine⟨by simp,λk af=>?_,λk af=>?_,λa aC=>?_,λa aC=>?_,(ap i).2 rfl⟩
 ·simp only[fW]at af;omega
 ·simp only[fW]at af;subst af;simpa using(ap i).2 rfl
 ·rw[(ap a).1 aC];exact .inl (by simp)
 ·rw[(ap a).1 aC];exact .self
def Vl{L:List (List Int)}(b9:∀ l∈L,valid L.length l){i:Nat}:∀ (f:Nat) (m:List Bool) (o:List Int),vN L i m o->o≠[]->2*qj m+o.length<=f->N7 L i (xB L f m o)
 |0,m,o,h,aw,aJ=>by exact(aw (jh (by omega))).elim
 |f+1,m,o,h,aw,aJ=>by
  obtain⟨o',w,rfl⟩:∃ o' w,o=o'++[w]:=by
   rcases Fo o with aa | ⟨r,p,aa⟩;·exact(aw aa).elim
   ·exact⟨r,p,by simpa using aa⟩
  obtain⟨aa,ab⟩:=h.step b9;unfold xB;simp only[Nx,Ny];cases ai:decide (0<(iC m o' (L.getD w.toNat [])).2.length)with
  |true=>simp only[bl];refine Vl b9 f _ _ aa (λe=>?_) (by omega);rw[e]at ai;simp at ai| false=>simp only[bh];have e:(iC m o' (L.getD w.toNat [])).2=[]:=jh (by simpa using ai);rw[e]at aa;exact aa.done b9
def F8(b9:∀ l∈L,valid L.length l)(hi:i<L.length):N7 L i (gw L i):=by refine Vl b9 _ _ _ (.start hi) (by simp) ?_;have:=Vj ((List.replicate L.length false).set i true);simp only[lT,vv,ea,gV]at this |-;omega
def N8{bc post:List Value}{z:Value}(af:k=bc.length):bo (bc++z::post) k [v]=bc++v::post:=by
 subst af;unfold bo;have e:(bc++z::post).drop (bc.length+[v].length)=post:=by rw[show bc++z::post=(bc++[z])++post from by simp];exact CD (by simp)
 rw[e,p5 rfl];simp
def dC(g:bJ):List (List Int):=g.ds.map λd=>C3 g d.t
def Vm(bp:e4 I ax)(au:g.ok I)(aq:g.n<=1099511627776):Spec Tryz.prog 111 [g.val] I [] λv I' M'=>(∀ b o,I b=some o->I' b=some o)/\M'=[] /\
  ((dF ax g≠0/\v=.tuple #[.slice none 0 0,.bool false])\/(dF ax g=0/\∃ x:fL,v=.tuple #[x.val,.bool true]/\x.ok I'/\x.h2=dC g)):=by
 refine bN [] aV Tryz.func111 rfl rfl rfl ?_;intro B ar;have eH:=au.n;refine a9.mk [] [] _ (.refl _) (F4 bp au) ?_;rintro v cU M1 -⟨rfl,bO,rfl⟩;refine aU.mk (λh=>?_) (λh=>?_)
 ·exact⟨_,_,.refl,bO,rfl,.inl ⟨by simpa using h,rfl⟩⟩
 ·have F9:dF ax g=0:=by simpa using h
  refine n1.mk g.n g.n rfl rfl (cj _) (by show 24*g.n<=_;omega) (by omega) ?_;refine b8.mk λb ai ph=>?_;refine c4.inv (ι:=Nat×List jn×aZ) (λx=>{ bu:=[(1,.ref 1 0),(4,.val (.slice (some ⟨b,0,none⟩) g.n g.n)),(15,.val (.slice g.a g.n g.c)),(16,.val (.int .i64 g.n)),(17,.val (.int .i64 x.1))],cl:=[(1,[.slice g.a g.n g.c])],cS:=x.2.2,db:=[⟨b,.cells (x.2.1.map jn.val++List.replicate (g.n-x.1) (Value.slice none 0 0)).toArray 70 (0,0)⟩] }) (λx=>x.1<=g.n/\x.2.1.length=x.1/\(∀ b o,I b=some o->x.2.2 b=some o)/\x.2.2 b=none/\(∀ r∈x.2.1,r.ok x.2.2)/\x.2.1.map (·.l)=(g.ds.take x.1).map (λd=>C3 g d.t)) (λx=>g.n-x.1) ?_ ?_;·refine⟨(0,[],cU),⟨by simp,rfl,bO,ai,by simp,rfl⟩,?_,gS,.cons rfl .nil⟩;show jd _ _ [⟨b,.cells (rowOf [.slice none 0 0] (g.n*1)).toArray 70 (0,0)⟩] _ _;rw[yS,fP];exact .refl
  ·rintro⟨i,a8,ev⟩⟨hi,gW,eM,gq,jW,lp⟩;simp only at hi gW eM gq jW lp;refine aU.mk (λh=>?_) (λh=>?_)
   ·have aR:i<g.n:=by simpa using h
    have bZ:i<g.ds.length:=by omega
    have jF:=au.mono eM;obtain⟨ad,bF,bk⟩:=jF.a8.row aQ.cD aR bZ;have eS:g.ds[i]∈g.ds:=cJ bZ;refine bi.mk ad i bF rfl aR ?_;refine aI.mk _ (bk _) ?_;refine a9.Iv [] [⟨b,.cells (a8.map jn.val++List.replicate (g.n-i) (Value.slice none 0 0)).toArray 70 (0,0)⟩] _ (.refl _) (Vi jF aq (jF.ds _ eS).t) ?_;rintro v hK rV-C4⟨hB,x,rfl,ae,fD,rfl⟩;refine bi.mk ⟨b,0,none⟩ i rfl rfl aR ?_;refine cp.add [] [] _ _ rfl ?_ rfl ?_;·simp only[mE,cI,c8,vv];show 0+i*1+1<=_;omega
    refine bd.mk _ (cx (i:=i) (by omega)) ?_;refine⟨(i+1,a8++[x],hK),⟨⟨by simp only;omega,by simp[gW],λb o h=>hB _ _ (eM _ _ h),C4 _ (.head _),λr ak=>?_,?_⟩,by simp only;omega⟩,?_,gS,.cons rfl .nil⟩
    ·simp only[dQ,fW]at ak;rcases ak with ak | rfl
     ·exact(jW r ak).mono hB
     ·exact ae
    ·simp only;rw[e7,lp,gf bZ,e7];simp[fD]
    ·have r8:List.replicate (g.n-i) (Value.slice none 0 0)=.slice none 0 0::List.replicate (g.n-(i+1)) (Value.slice none 0 0):=by rw[show g.n-i=(g.n-(i+1))+1 from by omega,y1]
     have e:=N8 (bc:=a8.map jn.val) (post:=List.replicate (g.n-(i+1)) (Value.slice none 0 0)) (z:=.slice none 0 0) (v:=x.val) (k:=0+i*1) (by simp[gW]);rw[r8];simp only[e7,cY,kR,fq,qZ,jZ];rw[<-e];exact .refl
   ·have cP:g.n<=i:=by simpa using h
    have fK:i=g.n:=by omega
    subst fK;refine⟨_,_,.nk rfl (by simp) .refl,λb o h=>lr gq _ _ (eM _ _ h),rfl,.inr ⟨F9,⟨a8,some ⟨b,0,none⟩,g.n,g.n⟩,rfl,⟨⟨by simp[gW],⟨cj _,by simp only;omega⟩,.inr ⟨_,rfl,rfl,_,_,_,q5 ..,?_⟩⟩,λr ak=>(jW r ak).mono (lr gq)⟩,?_⟩⟩;·simp[gW];exact eW (by simp[gW])
    ·simp only[fL.h2,lp,dC];rw[eW (by omega)]
def Vn{K:ke}{a b d:dn}(h:∀ G oo,V X c (fz (fz (fz G t3 d) t2 b) t1 a) oo I M K)
  (aa:F t1=a) (ab:F t2=b) (ag:F t3=d):V X c F C I M K:=by
 have:=h F C;rwa [CX ag,CX ab,CX aa]at this
abbrev JF:=Nat×List Bool×a'×List Int×Nat
def Vo(I:aZ)(x:fL)(y:JF):vj:={ bu:=[(0,.val x.val),(5,.val (.slice (some ⟨y.1,0,none⟩) x.n x.n)),(6,.val y.2.2.1.val)],cS:=I,db:=y.2.2.1.aP 3++[ml y.1 y.2.1] }
structure JG(I:aZ)(L:List (List Int))(i:Nat)(y:JF):Prop where
 aP:I y.1=none
 os:y.2.2.1.ok 1 (y.2.2.2.1.map (.int .i64 ·))
 inv:vN L i y.2.1 y.2.2.2.1
 ne:y.2.2.2.1≠[]
 FV:2*qj y.2.1+y.2.2.2.1.length<=y.2.2.2.2
 h3:y.2.2.2.2<=2*L.length+2
 eq:gw L i=xB L y.2.2.2.2 y.2.1 y.2.2.2.1
def afW(L:List (List Int))(f:Nat)(m:List Bool)(o:List Int)(w:Int):xB L (f+1) m (o++[w]) =
  bif decide (0<(iC m o (L.getD w.toNat [])).2.length)then xB L f (iC m o (L.getD w.toNat [])).1 (iC m o (L.getD w.toNat [])).2 else(iC m o (L.getD w.toNat [])).1:=by
 rw[xB];simp only[Nx,Ny]
def Vp{x:fL}(ae:x.ok I)(aq:x.n<=1099511627776)(b9:∀ l∈x.h2,valid x.h2.length l)(y:JF)(aF:JG I x.h2 i y){p:Nat->JF->Prop}(aD:∀ z,JG I x.h2 i z->z.2.2.2.2<y.2.2.2.2->p 0 z)(B:Nat)(ar:World)(G:Fr)(oo:dp) :
  V ⟨Tryz.prog,hL,[],Tryz.f113.ntmps,B,ar,I,[],none⟩ (Jq (CY (Tryz.f113.body.getD .skip)) 0) (fz (fz (fz G 6 (.val y.2.2.1.val)) 5 (.val (.slice (some ⟨y.1,0,none⟩) x.n x.n))) 0 (.val x.val)) oo I (y.2.2.1.aP 3++[ml y.1 y.2.1])
   (I4 (λl=>o2 [] (Vo I x) (p l)) (tU ⟨Tryz.prog,hL,[],Tryz.f113.ntmps,B,ar,I,[],none⟩ Tryz.f113.results.toList
    (λv I' M'=>(∀ b o,I b=some o->I' b=some o)/\∃ r:ur,v=r.val/\r.ok I'/\r.l=gw x.h2 i/\M'=[]))):=by
 obtain⟨b,m,⟨xu,n,eG,aK⟩,o,f⟩:=y;obtain⟨ai,ca,hinv,bK,AQ,afX,vI⟩:=aF;simp only at ai ca hinv bK AQ afX vI aD |-;have jK:=ae.n;have jf:x.h2.length=x.n:=by simp[fL.h2,jK]
 have iV:m.length=x.n:=hinv.len.trans jf;obtain⟨o',w,rfl⟩:∃ o' w,o=o'++[w]:=by
  rcases Fo o with aa | ⟨r,p,aa⟩;·exact(bK aa).elim
  ·exact⟨r,p,by simpa using aa⟩
 have C2:n=o'.length+1:=by have:=ca.vM;simpa using this
 cases xu with
 |none=>have:=(ca.nil rfl).1;simp only at this;omega| some cK=>
 obtain⟨eA,mj,kT,dz⟩:=ca.cap cK rfl;simp only at eA mj kT dz;have hw:=hinv.val w (by simp);have N6:w.toNat<x.h2.length:=by omega
 have fu:w.toNat<x.rows.length:=by omega
 have JH:w.toNat<x.n:=by omega
 obtain⟨dE,aR⟩:=hinv.step b9;have JE:x.h2.getD w.toNat []=x.rows[w.toNat].l:=by simp[fL.h2,cC,fu]
 rw[JE]at dE aR;obtain⟨f,rfl⟩:∃ f',f=f'+1:=⟨f-1,by simp at AQ;omega⟩;have ic:gw x.h2 i=bif decide (0<(iC m o' x.rows[w.toNat].l).2.length)then xB x.h2 f (iC m o' x.rows[w.toNat].l).1 (iC m o' x.rows[w.toNat].l).2 else(iC m o' x.rows[w.toNat].l).1:=by rw[vI,afW,JE]
 have yY:valid x.h2.length x.rows[w.toNat].l:=b9 _ (by simp only[fL.h2];exact dA.2 ⟨_,cJ fu,rfl⟩);have oy:=ae.rows _ (cJ fu);have jE:=oy.n;have k0:=oy.a8.cap;obtain⟨eJ,iZ,gF⟩:=ae.a8.one JH fu;have oq:IntKind.i64.wrap ((n:Int)-1)=((n-1:Nat):Int):=by simp only[cI,ea,gV]at AQ;rw[wrap_i64 ⟨by omega,by omega⟩];omega
 obtain⟨bb,lR⟩:∃ bb,aK=o'.map (Value.int .i64)++(.int .i64 w::bb):=by refine⟨aK.drop n,?_⟩;have ab:=sV (n*1) aK;rw[dz,fP]at ab;rw[e7,fq]at ab;exact ab.symm
 have N9:aK.drop (n-1)=.int .i64 w::bb:=by rw[lR];exact CD (by simp;omega)
 refine bd.mk _ oq ?_;refine bi.mk ⟨cK,0,none⟩ (n-1) rfl rfl (by show n-1<n;omega) ?_;refine aI.mk [.int .i64 w] ?_ ?_
 ·have:=dO (I:=I) (M:=[⟨cK,.cells aK.toArray 3 (0,0)⟩]++[ml b m]) (b:=cK) (cs:=aK) (T:=3) (.head _) (k:=(n-1)*1) (n:=1) (by omega);rw[fP,N9]at this;rw[fP];exact this
 refine bd.mk _ oq ?_;refine ik.mk 0 (n-1) rfl rfl (bw _) (by show n-1<=eG;omega) ?_;refine bi.mk eJ w.toNat iZ (by omega) JH ?_;refine aI.mk _ (gF _) ?_;generalize g7:x.rows[w.toNat]=row at *;have pB:a'.ok ⟨some cK,n-1,eG,aK⟩ 1 (o'.map (.int .i64 ·)):=by refine⟨by simp;omega,(λh=>by cases h),λbI ag=>⟨eA,by show n-1<=eG;omega,kT,?_⟩⟩;show aK.take ((n-1)*1)=_;have ab:=sV (n*1) aK;rw[dz,fP]at ab;rw[<-ab,e7,fq,fP];exact p5 (by simp;omega)
 simp only[cI,ea,gV]at aR AQ;refine c4.inv (ι:=Nat×List Bool×a'×List Int) (λz=>{ bu:=[(0,.val x.val),(5,.val (.slice (some ⟨b,0,none⟩) x.n x.n)),(6,.val z.2.2.1.val),(32,.val row.val),(33,.val (.int .i64 row.n)),(34,.val (.int .i64 z.1))],cS:=I,db:=z.2.2.1.aP 3++[ml b z.2.1] }) (λz=>z.1<=row.n/\z.2.1.length=x.n/\z.2.2.1.ok 1 (z.2.2.2.map (.int .i64 ·))/\2*qj z.2.1+z.2.2.2.length<=2*x.n+2/\iC m o' row.l=iC z.2.1 z.2.2.2 (row.l.drop z.1)) (λz=>row.n-z.1) ?_ ?_
 ·exact⟨(0,m,⟨some cK,n-1,eG,aK⟩,o'),⟨by simp,iV,pB,by simp only;omega,rfl⟩,.refl,kf,.nil⟩
 ·rintro⟨j,s,os,q⟩⟨an,g6,AT,Vq,Cy⟩;simp only at an g6 AT Vq Cy;refine aU.mk (λh=>?_) (λh=>?_)
  ·have fl:j<row.n:=by simpa using h
   have kp:j<row.l.length:=by omega
   obtain⟨fR,fS,e2⟩:=oy.a8.one fl kp;have hZ:row.l.drop j=row.l[j]::row.l.drop (j+1):=eE kp;have lQ:=yY _ (cJ kp);generalize af:row.l[j]=k at *;have cw:k.toNat<s.length:=by omega
   have afY:=AT.vM;refine bi.mk fR j fS rfl fl ?_;refine aI.mk _ (e2 _) ?_;refine bi.mk ⟨b,0,none⟩ k.toNat rfl (by omega) (by omega) ?_;refine aI.mk _ (I9 (by simp) cw) ?_;have CJ:s.getD k.toNat false=s[k.toNat]:=by simp[cC,cw]
   refine aU.mk (λab=>?_) (λab=>?_)
   ·have aJ:s.getD k.toNat false=false:=by rw[CJ];simpa using ab
    have IC:=N3 s k.toNat cw aJ;refine bi.mk ⟨b,0,none⟩ k.toNat rfl (by omega) (by omega) ?_;refine cp.add (os.aP 3) [] _ _ rfl ?_ rfl ?_;·simp only[mE,c8];show 0+k.toNat*1+1<=_;omega
    have e:=FD s k.toNat cw true;refine b8.mk λbW gJ te=>?_;refine bn.append aV rfl (by simp) (e:=3) rfl rfl rfl os AT rfl (m:=1) rfl (bV:=[.int .i64 k]) (by decide) (dO (b:=bW) (cs:=[.int .i64 k]) (k:=0) (n:=1) (T:=3) (.head _) (by simp)) rfl (Mr:=[⟨b,.cells (bo (s.map Value.bool) (0+k.toNat*1) [.bool true]).toArray 4 (0,0)⟩,⟨bW,.cells #[.int .i64 k] 3 (0,0)⟩]) (Vf _ _ _) (by simp only[maxLen];omega) (by show(os.n+1)*8<=_;omega) ?_;intro dv c' hN ej ed fJ gI;refine bd.mk _ (cx (i:=j) (by omega)) ?_;refine⟨(j+1,s.set k.toNat true,⟨some dv,os.n+1,c',hN⟩,q++[k]),⟨⟨by simp only;omega,by simpa using g6,?_,?_,?_⟩,by simp only;omega⟩,?_,kf,.nil⟩;·simp only;rw[e7];exact NY AT ej ed fJ gI
    ·simp only[cI,ea,gV];omega
    ·simp only;rw[Cy,hZ,iC,aJ];rfl
    ·simp only[ml];rw[<-e];simp only[c0,fP];exact .sub (.cons_cons _ (.cons_cons _ (fZ _))) .refl
   ·have aJ:s.getD k.toNat false=true:=by rw[CJ];simpa using ab
    refine bd.mk _ (cx (i:=j) (by omega)) ?_;refine⟨(j+1,s,os,q),⟨⟨by simp only;omega,g6,AT,Vq,?_⟩,by simp only;omega⟩,.refl,kf,.nil⟩;simp only;rw[Cy,hZ,iC,aJ];rfl
  ·have cP:row.n<=j:=by simpa using h
   have aj:iC m o' row.l=(s,q):=by rw[Cy,ji (by omega)];rfl
   rw[aj]at ic dE aR;simp only at ic dE aR;have afY:=AT.vM;refine aU.mk (λab=>?_) (λab=>?_)
   ·have fm:0<q.length:=by simp at ab;omega
    refine⟨(b,s,os,q,f),aD _ ⟨ai,AT,dE,λe=>by simp only at e;rw[e]at fm;simp at fm,by simp only;omega,by simp only;omega,?_⟩ (by simp only;omega),.refl,fH,.nil⟩;simp only;rw[ic,show decide (0<q.length)=true from eN fm];rfl
   ·have fm:¬ 0<q.length:=by simp at ab;omega
    have lY:gw x.h2 i=s:=by rw[ic,show decide (0<q.length)=false from de fm];rfl
    refine⟨_,_,.sub (jY _ _) (.nk rfl (by simp) .refl),lr ai,⟨some ⟨b,0,none⟩,x.n,x.n,s⟩,rfl,⟨⟨by simp[g6],⟨cj _,by simp only;omega⟩,.inr ⟨_,rfl,rfl,_,_,_,q5 ..,?_⟩⟩⟩,lY.symm,rfl⟩;simp[g6];exact eW (by simp[g6])
def Vr{x:fL}(ae:x.ok I)(aq:x.n<=1099511627776)(b9:∀ l∈x.h2,valid x.h2.length l)(hi:i<x.n):Spec Tryz.prog 113 [x.val,.int .i64 i] I [] λv I' M'=>(∀ b o,I b=some o->I' b=some o)/\∃ r:ur,v=r.val/\r.ok I'/\r.l=gw x.h2 i/\M'=[]:=by
 refine bN [] aV Tryz.func113 rfl rfl rfl ?_;intro B ar;have jK:=ae.n;have jf:x.h2.length=x.n:=by simp[fL.h2,jK]
 refine c5.scope aV rfl (Vo I x) (λ_=>0) (JG I x.h2 i) (λy=>y.2.2.2.2) (λ_=>Jq (CY (Tryz.f113.body.getD .skip)) 0) (λ_ _=>⟨by kernel_rfl,by kernel_rfl⟩) ?_ ?_
 ·refine n1.mk x.n x.n rfl rfl (cj _) (by show 1*x.n<=_;omega) (by omega) ?_;refine b8.mk λb ai ph=>?_;refine bi.mk ⟨b,0,none⟩ i rfl rfl hi ?_;have ak:rowOf [.bool false] (x.n*1)=(List.replicate x.n false).map Value.bool:=by rw[yS,fP,I2]
  refine cp.add [] [] (((List.replicate x.n false).map Value.bool).toArray) 4 (by rw[<-ak];rfl) ?_ rfl ?_;·simp only[mE,c8,vv];show 0+i*1+1<=_;omega
  refine b8.mk λb6 FX NQ=>?_;have e:=FD (List.replicate x.n false) i (by simpa using hi) true;have dE:=vN.start (L:=x.h2) (i:=i) (by omega);rw[jf]at dE;have key:=λG oo=>Vp ae aq b9 (i:=i) (b,(List.replicate x.n false).set i true,⟨some b6,1,1,[.int .i64 i]⟩,[(i:Int)],2*x.n+2) ⟨ai,⟨rfl,(λh=>by cases h),λbI _=>⟨rfl,cj _,by simp only[maxLen];omega,rfl⟩⟩,dE,by simp,?_,by simp only;omega,by simp only[gw];rw[jf]⟩ (p:=λl y=>JG I x.h2 i y/\0=l) (λz bf _=>⟨bf,rfl⟩) B ar G oo;·refine Vn (t1:=0) (t2:=5) (t3:=6) (λG oo=>?_) rfl rfl rfl;have cA:=key G oo;simp only[ml]at cA;rw[<-e]at cA;simp only[c0,fP];exact cA
  ·simp only;have:=Vj ((List.replicate x.n false).set i true);simp only[lT,vv,ea,gV]at this |-;omega
 ·intro y aF;exact Vn (t1:=0) (t2:=5) (t3:=6) (λG oo=>Vp ae aq b9 y aF (λz bf aR=>⟨⟨bf,rfl⟩,aR⟩) B ar G oo) rfl rfl rfl
def F'(wh:Bool):∀ (s:List Bool) (i:Nat) (k:Int),k∈gj wh i s ↔ ∃ j:Nat,k=((i+j:Nat):Int)/\s[j]?=some wh
 |[],i,k=>by simp[gj]
 |b::s,i,k=>by
  have a7:=F' wh s (i+1) k;unfold gj;have tail:(∃ j:Nat,k=((i+1+j:Nat):Int)/\s[j]?=some wh) ↔ ∃ j:Nat,k=((i+(j+1):Nat):Int)/\(b::s)[j+1]?=some wh:=by
   constructor;·rintro⟨j,aa,ab⟩;exact⟨j,by rw[aa];omega,by simpa using ab⟩
   ·rintro⟨j,aa,ab⟩;exact⟨j,by rw[aa];omega,by simpa using ab⟩
  have split:(∃ j:Nat,k=((i+j:Nat):Int)/\(b::s)[j]?=some wh) ↔ (k=(i:Int)/\b=wh)\/∃ j:Nat,k=((i+(j+1):Nat):Int)/\(b::s)[j+1]?=some wh:=by
   constructor
   ·rintro⟨j,aa,ab⟩;cases j with
    |zero=>exact .inl ⟨by simpa using aa,by simpa using ab⟩| succ j=>exact .inr ⟨j,aa,ab⟩
   ·rintro(⟨aa,ab⟩ | ⟨j,aa,ab⟩)
    ·exact⟨0,by simpa using aa,by simpa using ab⟩
    ·exact⟨j+1,aa,ab⟩
  rw[split];cases ai:b == wh with
  |true=>
   have:b=wh:=by simpa using ai
   simp only[bl,ef,a7,tail];simp[this]
  |false=>
   have:b≠wh:=by simpa using ai
   simp only[bh,a7,tail];simp[this]
def Vs{wh:Bool}{s:List Bool}:valid s.length (gj wh 0 s):=λk af=>by obtain⟨j,aa,ab⟩:=(F' wh s 0 k).1 af;have:=(hT.1 ab).1;omega
def afZ(g:bJ)(t:cB):valid g.n (C3 g t):=by have h:=Vs (wh:=true) (s:=ox g.ds g.n (ht t.ns));rw[N2]at h;exact h
def uu(aq:g.ds.length=g.n):∀ l∈dC g,valid (dC g).length l:=by intro l av;obtain⟨d,_,rfl⟩:=dA.1 av;simp only[dC,c8,aq];exact afZ g d.t
def Vt:∀ (s:List Bool) (i j:Nat),(gj true i s).length+(gj false j s).length=s.length
 |[],_,_=>rfl
 |b::s,i,j=>by
  have:=Vt s (i+1) (j+1);cases b<;>simp[gj]<;>omega
def N'{s:List Bool}:(k:Int)∈gj true 0 s ↔ iY s k:=by
 rw[F'];unfold iY;constructor
 ·rintro⟨j,aa,ab⟩;have:k=j:=by omega
  subst this;simp[cC,ab]
 ·intro h;refine⟨k,by omega,?_⟩;have av:=afU h;simp only[cC,eb av,jS]at h;rw[eb av,h]
def af0{s:List Bool}:(k:Int)∈gj false 0 s ↔ k<s.length/\¬ iY s k:=by
 rw[F'];unfold iY;constructor
 ·rintro⟨j,aa,ab⟩;have:k=j:=by omega
  subst this;have av:=(hT.1 ab).1;exact⟨av,by simp[cC,ab]⟩
 ·rintro⟨av,h⟩;refine⟨k,by omega,?_⟩;simp only[cC,eb av,jS]at h;rw[eb av];simpa using h
def vO:jn:=⟨none,0,0,[]⟩
def ze(I:aZ):vO.ok I:=⟨⟨rfl,⟨cj _,by simp[vO]⟩,.inl rfl⟩⟩
def nH(i:Int)(n:Nat):Bool:=!decide (i<0) && !decide ((n:Int)<=i)
def j4(ax:List Int)(g:bJ)(i:Int):List Int:=bif nH i g.n&&decide (dF ax g=0)then(dC g).getD i.toNat []else []
def pC(ax:List Int)(g:bJ)(i:Int):List Int:=bif nH i g.n&&decide (dF ax g=0)then gj true 0 (gw (dC g) i.toNat)else []
def mr(ax:List Int)(g:bJ):List Int:=bif decide (dF ax g=0) && !decide ((g.n:Int)=0)then gj false 0 (gw (dC g) 0)else []
def af1(bp:e4 I ax)(au:g.ok I)(aq:g.n<=1099511627776)(i:Int):Spec Tryz.prog 174 [g.val,.int .i64 i] I [] λv I' M'=>(∀ b o,I b=some o->I' b=some o)/\∃ x:jn,v=x.val/\x.ok I'/\x.l=j4 ax g i/\M'=[]:=by
 refine bN [] aV Tryz.func174 rfl rfl rfl ?_;intro B ar;have eH:=au.n;refine b4.mk (λaa=>?_) (λaa=>?_)
 ·refine b4.mk (λab=>?_) (λab=>?_)
  ·have fK:nH i g.n=true:=by have ix:decide ((g.n:Int)<=i)=false:=ab;rw[nH,aa,ix];rfl
   refine a9.mk [] [] _ (.refl _) (F4 bp au) ?_;rintro v cU M1 -⟨rfl,bO,rfl⟩;refine aU.mk (λag=>?_) (λag=>?_)
   ·refine⟨_,_,.refl,bO,vO,rfl,ze _,?_,rfl⟩;have gv:decide (dF ax g=0)=false:=by simpa using ag
    rw[j4,fK,gv];rfl
   ·have hm:decide (dF ax g=0)=true:=by simpa using ag
    have JI:0<=i:=by simpa using aa
    have fb:i<g.n:=by simpa using ab
    have kd:i.toNat<g.ds.length:=by omega
    have kr:=au.mono bO;obtain⟨ad,bF,bk⟩:=kr.a8.row aQ.cD (j:=i.toNat) (by omega) kd;have eS:g.ds[i.toNat]∈g.ds:=cJ kd;refine c5.draw aV rfl rfl rfl ?_;refine bi.mk ad i.toNat bF (by omega) (by omega) ?_;refine aI.mk _ (cr.part (k:=1) (m:=2) (bk _) (by decide)) ?_;refine a9.mk [] [] _ (.refl _) (Vi kr aq (kr.ds _ eS).t) ?_;rintro v ev ez -⟨eM,x,rfl,ae,fD,rfl⟩;refine⟨_,_,.refl,λb o h=>eM _ _ (bO _ _ h),x,rfl,ae,?_,rfl⟩;rw[j4,fK,hm,fD];simp[dC,cC,kd]
  ·refine⟨_,_,.refl,λ_ _ h=>h,vO,rfl,ze _,?_,rfl⟩;have ix:decide ((g.n:Int)<=i)=true:=ab;rw[j4,nH,aa,ix];rfl
 ·refine⟨_,_,.refl,λ_ _ h=>h,vO,rfl,ze _,?_,rfl⟩;rw[j4,nH,aa];rfl
def JJ(aq:g.ds.length=g.n):(dC g).length=g.n:=by simp[dC,aq]
def JK(b9:∀ l∈L,valid L.length l)(hi:i<L.length):(gw L i).length=L.length:=(F8 b9 hi).len
def af2(bp:e4 I ax)(au:g.ok I)(aq:g.n<=1099511627776)(i:Int):Spec Tryz.prog 70 [g.val,.int .i64 i] I [] λv I' M'=>(∀ b o,I b=some o->I' b=some o)/\∃ x:jn,v=x.val/\x.ok I'/\x.l=pC ax g i/\M'=[]:=by
 refine bN [] aV Tryz.func70 rfl rfl rfl ?_;intro B ar;have eH:=au.n;refine a9.mk [] [] _ (.refl _) (Vm bp au aq) ?_;rintro v cU M1 -⟨bO,rfl,⟨hm,rfl⟩|⟨hm,x,rfl,ae,fD⟩⟩
 ·refine b4.mk (λh=>by cases h) (λ_=>?_);refine⟨_,_,.refl,bO,vO,rfl,ze _,?_,rfl⟩;have gv:decide (dF ax g=0)=false:=by simpa using hm
  rw[pC,gv,CW];rfl
 ·have gv:decide (dF ax g=0)=true:=by simpa using hm
  have jK:x.n=g.n:=by have aa:=ae.n;have ab:=congrArg List.length fD;simp only[fL.h2,c8,dC]at ab;omega
  have aj:∀ l∈x.h2,valid x.h2.length l:=by rw[fD];exact uu eH
  refine b4.mk (λ_=>?_) (λh=>by cases h);refine b4.mk (λaa=>?_) (λaa=>?_)
  ·refine aU.mk (λab=>?_) (λab=>?_)
   ·refine⟨_,_,.refl,bO,vO,rfl,ze _,?_,rfl⟩;have ix:decide ((g.n:Int)<=i)=true:=by rw[<-jK];exact ab
    rw[pC,nH,aa,ix];rfl
   ·have ix:decide ((g.n:Int)<=i)=false:=by rw[<-jK];exact ab
    have JI:0<=i:=by simpa using aa
    have fb:i<g.n:=by simpa using ix
    obtain⟨j,rfl⟩:=h' JI;refine a9.mk [] [] _ (.refl _) (Vr ae (by omega) aj (i:=j) (by omega)) ?_;rintro v ev ez -⟨eM,r,rfl,ak,gW,rfl⟩;have jE:r.n=g.n:=by have aa:=ak.n;rw[gW,JK aj (by rw[fD,JJ eH];omega),fD,JJ eH]at aa;exact aa.symm
    refine a9.mk [] [] _ (.refl _) (Vg ak (by omega) true) ?_;rintro v hK rV -⟨hB,y,rfl,aF,s8,rfl⟩;refine⟨_,_,.refl,λb o h=>hB _ _ (eM _ _ (bO _ _ h)),y,rfl,aF,?_,rfl⟩;rw[pC,nH,aa,ix,gv,s8,gW,fD];rfl
  ·refine⟨_,_,.refl,bO,vO,rfl,ze _,?_,rfl⟩;rw[pC,nH,aa];rfl
def af3(bp:e4 I ax)(au:g.ok I)(aq:g.n<=1099511627776):Spec Tryz.prog 110 [g.val] I [] λv I' M'=>(∀ b o,I b=some o->I' b=some o)/\∃ x:jn,v=x.val/\x.ok I'/\x.l=mr ax g/\M'=[]:=by
 refine bN [] aV Tryz.func110 rfl rfl rfl ?_;intro B ar;have eH:=au.n;refine a9.mk [] [] _ (.refl _) (Vm bp au aq) ?_;rintro v cU M1 -⟨bO,rfl,⟨hm,rfl⟩|⟨hm,x,rfl,ae,fD⟩⟩
 ·refine b4.mk (λh=>by cases h) (λ_=>?_);refine⟨_,_,.refl,bO,vO,rfl,ze _,?_,rfl⟩;have gv:decide (dF ax g=0)=false:=by simpa using hm
  rw[mr,gv];rfl
 ·have gv:decide (dF ax g=0)=true:=by simpa using hm
  have jK:x.n=g.n:=by have aa:=ae.n;have ab:=congrArg List.length fD;simp only[fL.h2,c8,dC]at ab;omega
  have aj:∀ l∈x.h2,valid x.h2.length l:=by rw[fD];exact uu eH
  refine b4.mk (λ_=>?_) (λh=>by cases h);refine aU.mk (λab=>?_) (λab=>?_)
  ·refine⟨_,_,.refl,bO,vO,rfl,ze _,?_,rfl⟩;have ix:decide ((g.n:Int)=0)=true:=by rw[<-jK];exact ab
   rw[mr,ix,gv];rfl
  ·have ix:decide ((g.n:Int)=0)=false:=by rw[<-jK];exact ab
   have jV:g.n≠0:=by simp at ix;omega
   refine a9.mk [] [] _ (.refl _) (Vr ae (by omega) aj (i:=0) (by omega)) ?_;rintro v ev ez -⟨eM,r,rfl,ak,gW,rfl⟩;have jE:r.n=g.n:=by have aa:=ak.n;rw[gW,JK aj (by rw[fD,JJ eH];omega),fD,JJ eH]at aa;exact aa.symm
   refine a9.mk [] [] _ (.refl _) (Vg ak (by omega) false) ?_;rintro v hK rV -⟨hB,y,rfl,aF,s8,rfl⟩;refine⟨_,_,.refl,λb o h=>hB _ _ (eM _ _ (bO _ _ h)),y,rfl,aF,?_,rfl⟩;rw[mr,ix,gv,s8,gW,fD];rfl
structure JL where
 rows:List ur
 a:Option Addr
 n:Nat
 c:Nat
def JL.val(x:JL):Value:=.slice x.a x.n x.c
structure JL.ok(I:aZ)(x:JL):Prop where
 a8:eB I x.a x.n x.c 1 24 (x.rows.map ur.val)
 rows:∀ r∈x.rows,r.ok I
def rb(W:World):aZ:=λb=>W.heap[b]?
def af4(W:World):ew (rb W) [] W:=⟨λb o h=>h,(λx ae=>by cases ae),(λx ae=>by cases ae),Ae⟩
structure AU(W ku:World):Prop where
 du:∀ b,b<W.heap.size->ku.heap[b]?=W.heap[b]?
 sz:W.heap.size<=ku.heap.size
 out:n2 W ku
def af5{f:Nat}{args:List Value}{post:Value->aZ->List aB->Prop}(h:wY P f args (rb W) [] post) :
  Calls P f args.toArray W λe ku=>∃ v,e=.returned v/\(∃ I' M',post v I' M')/\AU W ku:=by
 refine(h.2 W (af4 W)).mono ?_;rintro e ku⟨v,I',M',rfl,aD,_,eu⟩;exact⟨v,rfl,⟨I',M',aD⟩,λb ai=>eu.du b ai (λy aF=>by cases aF),eu.sz,eu.out⟩
def AU.kept(h:AU W ku)(may:MemPlace->Prop):W.keptBut ku may:=by
 refine⟨h.out.1,h.out.2,λi hi=>?_⟩;rw[h.du i hi];cases W.heap[i]? with
 |none=>rfl| some o=>cases o<;>simp
def AU.frozen(h:AU W ku){a:Addr}(aC:a.block<W.heap.size):ku.frozen? a=W.frozen? a:=by unfold World.frozen?;rw[h.du _ aC]
variable{H:Type}{enc:TypeId×Value->H}{P:Program}
def af6{f:Func}{s:ChangeSpec}{apart fresh handsOn again:Bool}{args:Array Value}{ds gs:List (DataW H)}{before pa pv:List MemPlace}(im:DataW.Whole enc P f.params.toList s.vars apart W args.toList ds gs before)(Ga:∀ (b:Nat) (eY:Nat->Bool) (ah:Bool),DataW.TrodAll enc P ku b eY ah f.resultTypes.toList (v.resultList f.resultTypes.size) (s.fn H (ds++gs)).results [])(ms:∀ eY:Nat->Bool,(∀ p∈before,eY p.block=true)->DataW.TrodAll enc P ku 0 eY true f.params.toList args.toList (s.fn H (ds++gs)).args pa)(Vu:∀ eY:Nat->Bool,(∀ p∈before,eY p.block=true)->DataW.TrodVars enc P ku eY s.vars (s.fn H (ds++gs)).vars pv)(rc:before=pa++pv)(af:AU W ku)(bj:∀ (j:Nat) (t:TypeId) (r:Value),f.resultTypes[j]?=some t->(v.resultList f.resultTypes.size)[j]?=some r->Value.okWide P ku .any 0 t r) :
  s.post enc P f apart fresh handsOn again W args v ku:=by
 have hold:∀ p∈before,(λb=>decide (b<W.heap.size)) p.block=true:=λp aD=>by simpa using im.lt p aD
 have aR:∀ p∈before,p.block<W.heap.size:=λp aD=>im.lt p aD;refine⟨ds,gs,before,[],pa,pv,im,Ga _ _ _,ms _ hold,Vu _ hold,World.keptBut_mono (λp aD=>⟨aD,?_⟩) (af.kept (·∈before)),λ_=>?_⟩
 ·rw[rc,dQ]at aD;exact Or.inr aD
 ·obtain⟨_,_,_,_,_,bf,aq⟩:=im;refine⟨bj,_,_,([]++pa)++pv,⟨[]++pa,pv,ChangeShapes.trodAll_append (ms _ (λ_ _=>rfl)) (Ga _ _ _),Vu _ (λ_ _=>rfl),rfl,?_,?_⟩,?_⟩
  ·intro b off aD;have zf:MemPlace.cell b off∈before:=by rw[rc];simpa using aD
   rw[af.frozen (a:=⟨b,off,none⟩) (aR _ zf)];exact bf b off zf
  ·intro aC;have:=aq aC;rw[rc]at this;simpa using this
  ·intro p aD _;rw[rc];simpa using aD
def xC:DataW H->Option Value
 | .lit (.int k z)=>some (.int k z)| .lit (.string l)=>some (.string ⟨l.toArray⟩)| .lit (.bool b)=>some (.bool b)| _=>none
def Gb(P:Program)(e:TypeId):Bool:=match P.underlying e with
 |some .bool | some (.int _) | some .string=>true| _=>false
section
variable{w:World}{be:Nat}{eY:Nat->Bool}{held:Bool}{eL:Nat}{t e:TypeId}{cs:List Value}{d:DataW H}{p:List MemPlace}
def Vv(he:Gb P e=true)(h:DataW.trod enc P w be eY held eL e cs=some (d,p))(aj:xC d=some v):cs=[v]:=by
 unfold Gb at he;split at he
 ·rename_i hu;obtain⟨b,rfl,ae⟩:=DataW.trod_bool hu h;cases ae;simpa[xC]using aj
 ·rename_i k hu;obtain⟨n,rfl,ae,_⟩:=DataW.trod_int hu h;cases ae;simpa[xC]using aj
 ·rename_i hu;obtain⟨s,rfl,ae,_⟩:=Jl hu h;cases ae;simpa[xC]using aj
 ·cases he
def JM{α β:Type}{f:α->Option β}:∀ {l:List α} {r:List β},l.mapM f=some r->r.length=l.length/\∀ i (h:i<l.length) (aX:i<r.length),f l[i]=some r[i]
 |[],r,h=>by simp at h;subst h;exact⟨rfl,λi h=>by simp at h⟩
 |x::l,r,h=>by
  simp only[ET,Option.bind_eq_bind,Ml,Option.pure_def,j']at h;obtain⟨b,ai,tV,gZ,rfl⟩:=h;obtain⟨aa,ab⟩:=JM gZ;refine⟨by simp[aa],λi hi c7=>?_⟩;cases i with
  |zero=>simpa using ai| succ i=>simpa using ab i (by simpa using hi) (by simpa using c7)
def Vw{cs:List Value}(av:cs.length=vs.length)(h:∀ i (hi:i<vs.length),(cs.drop i).take 1=[vs[i]]):cs=vs:=by apply xi av;intro i aa ab;have:=h i ab;rw[eE aa,nt,mK]at this;simpa using this
def Vx{n:Nat}(ay:P.underlying t=some (.array n e))(he:Gb P e=true)(AV:P.cellsOf e=1)(dz:P.cellsOf t=n){ds:List (DataW H)}(h:DataW.trod enc P w be eY held eL t cs=some (.agg ds,p))(aj:ds.mapM xC=some vs):cs=vs:=by
 obtain⟨xs,m,rfl,ae,av,fD,hi⟩:=NB ay h;have e5:ds=xs.map (·.1):=by have:=congrArg Prod.fst ae;simpa using this
 obtain⟨a3,a6⟩:=JM aj;have r9:vs.length=n:=by rw[a3,e5];simpa using fD
 refine Vw (by rw[av,dz,r9]) λi c7=>?_;have aa:=hi i (by omega);rw[AV,fP]at aa;have uv:i<xs.length:=by omega
 rw[eb uv]at aa;have ab:=a6 i (by rw[e5];simpa using uv) c7;have ag:ds[i]'(by rw[e5];simpa using uv)=xs[i].1:=by simp[e5]
 rw[ag]at ab;exact Vv he (d:=xs[i].1) (p:=xs[i].2) aa ab
def af7{cE:Array Field}(ay:P.underlying t=some (.struct cE))(aJ:∀ (i:Nat) (f:Field),cE[i]?=some f->Gb P f.type=true/\f.offset=i/\P.cellsOf f.type=1)(dz:P.cellsOf t=cE.size){ds:List (DataW H)}(h:DataW.trod enc P w be eY held eL t cs=some (.agg ds,p))(aj:ds.mapM xC=some vs):cs=vs:=by
 obtain⟨xs,m,rfl,ae,av,fD,hi⟩:=DataW.trod_struct ay h;have e5:ds=xs.map (·.1):=by have:=congrArg Prod.fst ae;simpa using this
 obtain⟨a3,a6⟩:=JM aj;have r9:vs.length=cE.size:=by rw[a3,e5];simpa using fD
 refine Vw (by rw[av,dz,r9]) λi c7=>?_;have Vy:i<cE.size:=by omega
 obtain⟨eg,cA,gu⟩:=aJ i cE[i] (Ij Vy);have aa:=hi i cE[i] (Ij Vy);rw[cA,gu]at aa;have uv:i<xs.length:=by omega
 rw[eb uv]at aa;have ab:=a6 i (by rw[e5];simpa using uv) c7;have ag:ds[i]'(by rw[e5];simpa using uv)=xs[i].1:=by simp[e5]
 rw[ag]at ab;exact Vv eg (d:=xs[i].1) (p:=xs[i].2) aa ab
def Vz{sz:Nat}:∀ (rows:List (List Value)) (cs:List Value),cs.length=rows.length*sz->(∀ i (hi:i<rows.length),(cs.drop (i*sz)).take sz=rows[i])->cs=rows.flatten
 |[],cs,av,_=>jh (by simpa using av)
 |r::rows,cs,av,h=>by
  have ar:=h 0 (by simp);simp only[vw,sX,xh]at ar;rw[ea,kS,p6]at av;have a7:=Vz (sz:=sz) rows (cs.drop sz) (by rw[pb];omega) λi hi=>by have:=h (i+1) (by simpa using hi);rw[Ay,show sz+i*sz=(i+1)*sz from by rw[kS];omega];simpa using this
  rw[Nz,<-a7,<-ar,sV]
def af8{n:Nat}(ay:P.underlying t=some (.array n e))(AV:P.cellsOf e=sz)(dz:P.cellsOf t=n*sz){ds:List (DataW H)}(h:DataW.trod enc P w be eY held eL t cs=some (.agg ds,p))(ak:rows.length=ds.length)
  (fK:∀ i (hi:i<ds.length) (c7:i<rows.length) eL cs p,DataW.trod enc P w be eY held eL e cs=some (ds[i],p)->cs=rows[i]):cs=rows.flatten:=by
 obtain⟨xs,m,rfl,ae,av,fD,hi⟩:=NB ay h;have e5:ds=xs.map (·.1):=by have:=congrArg Prod.fst ae;simpa using this
 have gW:rows.length=n:=by rw[ak,e5];simpa using fD
 refine Vz (sz:=sz) rows cs (by rw[av,dz,gW]) λi c7=>?_;have aa:=hi i (by omega);rw[AV]at aa;have uv:i<xs.length:=by omega
 rw[eb uv]at aa;have ag:ds[i]'(by rw[e5];simpa using uv)=xs[i].1:=by simp[e5]
 exact fK i (by rw[e5];simpa using uv) c7 m _ xs[i].2 (by rw[ag];exact aa)
def VA(d:DataW H):Option (List Value):=match d with
 | .agg l=>l.mapM xC| _=>none
def Oa{n:Nat}(ay:P.underlying t=some (.array n e))(AV:P.cellsOf e=sz)(dz:P.cellsOf t=n*sz){ds:List (DataW H)}(h:DataW.trod enc P w be eY held eL t cs=some (.agg ds,p))(ak:ds.mapM VA=some rows)
  (fK:∀ eL cs p l row,DataW.trod enc P w be eY held eL e cs=some (.agg l,p)->l.mapM xC=some row->cs=row):cs=rows.flatten:=by
 obtain⟨a3,a6⟩:=JM ak;refine af8 ay AV dz h a3 λi hi c7 eL cs p aX=>?_;have ab:=a6 i hi c7;unfold VA at ab;split at ab
 ·rename_i l av;rw[av]at aX;exact fK _ _ _ _ _ aX ab
 ·cases ab
end
end Go.V
namespace Go.V
open Go Go.Proofs
variable{I I':aZ}{M:List aB}{os:a'}{α:Type}{size j i t1 t2 t3 k sz:Nat}{ax:List Int}{c:Code}{d:aS}{P:Program}{t:cB}{x y:Operand}{g:bJ}{w:Bool}{F:Fr}{C:dp}{vs xs:List Value}{X:c3}{s:ByteArray}{dk tb:dU}{l:List (ByteArray×Int)}{v:Value}{m:List Bool}{L:List (List Int)}{W ku:World}{rows:List (List Value)}
def JN{n:String}{g:Nat}{cs:Array Value}(au:P.globalNamed n=some g)(h:W.var? P n=some cs):∃ T al,W.heap[g]?=some (.cells cs T al):=by
 simp only[World.var?,au,Option.bind_some]at h;split at h
 ·rename_i c T al br;cases h;exact⟨T,al,br⟩
 ·cases h
def gb:List Int:=[0,1,56,2,57,49,28,3,61,58,42,50,38,29,17,4,62,47,59,36,45,43,51,22,53,39,33,30,24,18,12,5,63,55,48,27,60,41,37,16,46,35,44,21,52,32,23,11,54,26,40,15,34,20,31,10,25,14,19,9,13,8,7,6]
def af9{bb:List (String×DataW Unit)}(h:laidMet Tryz.prog ([("math/bits.deBruijn32tab",YtjambecdkaahmaaGreatDoor.Rows.laid_math_bits_deBruijn32tab),("math/bits.deBruijn64tab",YtjambecdkaahmaaGreatDoor.Rows.laid_math_bits_deBruijn64tab),("internal/strconv.uint64pow10",YtjambecdkaahmaaGreatDoor.Rows.laid_internal_strconv_uint64pow10),("bonsai/tree.counts",YtjambecdkaahmaaGreatDoor.Rows.laid_bonsai_tree_counts),("bonsai/print.counts",YtjambecdkaahmaaGreatDoor.Rows.laid_bonsai_print_counts),("bonsai/print.signs",YtjambecdkaahmaaGreatDoor.Rows.laid_bonsai_print_signs)]++bb) W):e4 (rb W) gb:=by
 obtain⟨ps,b9,_⟩:=h;obtain⟨a3,t1,asi,f1,po,ej,kr,td,IE,gY,b9,_⟩:=b9;obtain⟨a6,t2,aga,f2,pq,ed,jF,nC,n7,mq,b9,_⟩:=b9;obtain⟨bI,t3,asj,f3,C5,fJ,q6,asl,xD,C4,b9,_⟩:=b9;obtain⟨eQ,t4,agb,f4,VB,gI,C1,Ob,agc,agd,b9,_⟩:=b9;obtain⟨j0,t5,age,f5,asm,asn,AW,agf,agh,agi,b9,_⟩:=b9;obtain⟨JO,t6,agj,f6,aso,asp,VC,agk,agl,agm,b9,_⟩:=b9;obtain rfl:=kV ((show Tryz.prog.globalNamed "math/bits.deBruijn64tab" = some 5 by kernel_rfl).symm.trans jF)
 obtain rfl:=kV ((show(Tryz.prog.globals[5]?).map (·.type)=some 390 by kernel_rfl).symm.trans nC);obtain rfl:=kV ((show Tryz.prog.globalNamed "bonsai/tree.counts" = some 0 by kernel_rfl).symm.trans C1)
 obtain rfl:=kV ((show(Tryz.prog.globals[0]?).map (·.type)=some 262 by kernel_rfl).symm.trans Ob);obtain rfl:=kV ((show Tryz.prog.globalNamed "bonsai/print.counts" = some 3 by kernel_rfl).symm.trans AW)
 obtain rfl:=kV ((show(Tryz.prog.globals[3]?).map (·.type)=some 388 by kernel_rfl).symm.trans agf);obtain rfl:=kV ((show Tryz.prog.globalNamed "bonsai/print.signs" = some 1 by kernel_rfl).symm.trans VC)
 obtain rfl:=kV ((show(Tryz.prog.globals[1]?).map (·.type)=some 353 by kernel_rfl).symm.trans agk);obtain⟨AO,fM,cd⟩:=JN jF n7;obtain⟨NP,oz,e6⟩:=JN C1 agc;obtain⟨agn,xE,eI⟩:=JN AW agh;obtain⟨ago,Gc,b6⟩:=JN VC agl;have fC:aga.toList=gb.map (Value.int .u8):=Vx (show Tryz.prog.underlying 390=some (.array 64 5) by kernel_rfl) (by kernel_rfl) (by kernel_rfl) (by kernel_rfl) mq (by kernel_rfl);have JP:agb.toList=mN.map (Value.int .i64):=Oa (n:=10) (sz:=2) (show Tryz.prog.underlying 262=some (.array 10 261) by kernel_rfl) (by kernel_rfl) (by kernel_rfl) agd (rows:=[[.int .i64 0,.int .i64 0],[.int .i64 0,.int .i64 0],[.int .i64 0,.int .i64 0],[.int .i64 0,.int .i64 0],[.int .i64 2,.int .i64 (-1)],[.int .i64 2,.int .i64 (-1)],[.int .i64 1,.int .i64 1],[.int .i64 1,.int .i64 1],[.int .i64 1,.int .i64 1],[.int .i64 1,.int .i64 1]]) (by kernel_rfl) (λ_ _ _ _ _ aa ab=>Vx (show Tryz.prog.underlying 261=some (.array 2 3) by kernel_rfl) (by kernel_rfl) (by kernel_rfl) (by kernel_rfl) aa ab);have fields:∀ {t:TypeId},(match Tryz.prog.underlying t with
   |some (.struct cE)=>decide (Tryz.prog.cellsOf t=cE.size)&&(List.range cE.size).all λi=>match cE[i]? with
    |some f=>Gb Tryz.prog f.type&&(decide (f.offset=i)&&decide (Tryz.prog.cellsOf f.type=1))| none=>false
   |_=>false)=true->∀ (eL:Nat) (cs:List Value) (p:List MemPlace) (l:List (DataW Unit)) (row:List Value),DataW.trod (λ_=>()) Tryz.prog W 0 (λ_=>true) false eL t cs=some (.agg l,p)->l.mapM xC=some row->cs=row:=by
  intro t aA eL cs p l row aa ab;split at aA;·rename_i cE hu;simp only[b',eU,eP,lF]at aA;refine af7 hu (λi f aJ=>?_) aA.1 aa ab;have hi:=aA.2 i (lD.1 aJ).1;rw[aJ]at hi;simpa using hi
  ·cases aA
 have JQ:age.toList=FP:=Oa (n:=3) (sz:=3) (show Tryz.prog.underlying 388=some (.array 3 387) by kernel_rfl) (by kernel_rfl) (by kernel_rfl) agi (rows:=[[.int .i64 0,.int .i64 1,.string ⟨#[63]⟩],[.int .i64 0,.int .i64 (-1),.string ⟨#[42]⟩],[.int .i64 1,.int .i64 (-1),.string ⟨#[43]⟩]]) (by kernel_rfl) (fields (by kernel_rfl));have VD:agj.toList=ug.map λl=>Value.string (strOf l):=Oa (n:=10) (sz:=3) (show Tryz.prog.underlying 353=some (.array 10 352) by kernel_rfl) (by kernel_rfl) (by kernel_rfl) agm (rows:=[[.string ⟨#[]⟩,.string ⟨#[]⟩,.string ⟨#[]⟩],[.string ⟨#[]⟩,.string ⟨#[]⟩,.string ⟨#[]⟩],[.string ⟨#[]⟩,.string ⟨#[]⟩,.string ⟨#[]⟩],[.string ⟨#[]⟩,.string ⟨#[]⟩,.string ⟨#[]⟩],[.string ⟨#[]⟩,.string ⟨#[32]⟩,.string ⟨#[]⟩],[.string ⟨#[]⟩,.string ⟨#[32,47,32]⟩,.string ⟨#[]⟩],[.string ⟨#[]⟩,.string ⟨#[]⟩,.string ⟨#[]⟩],[.string ⟨#[38]⟩,.string ⟨#[]⟩,.string ⟨#[]⟩],[.string ⟨#[33]⟩,.string ⟨#[]⟩,.string ⟨#[]⟩],[.string ⟨#[60]⟩,.string ⟨#[]⟩,.string ⟨#[62]⟩]]) (by kernel_rfl) (fields (by kernel_rfl));have arr:∀ {cs:Array Value} {l:List Value},cs.toList=l->cs=l.toArray:=λh=>by apply gO;simpa using h
 refine⟨⟨NP,oz,?_⟩,⟨agn,xE,?_⟩,⟨ago,Gc,?_⟩,by decide,by decide,AO,fM,?_⟩
 ·rw[<-arr JP];exact e6
 ·rw[<-arr JQ];exact eI
 ·rw[<-arr VD];exact b6
 ·rw[<-arr fC];exact cd
def C6(cs:Array Value):Obj->Obj
 | .cells _ t al=>.cells cs t al| o=>o
def agp:List Int:=(List.range 20).map λi=>(10:Int)^i
def agq:List Int:=[0,1,28,2,29,14,24,3,30,22,20,15,25,17,4,8,31,27,13,23,21,19,16,7,26,12,18,6,11,5,10,9]
noncomputable def Oc(os:Os):World:=
 { World.holding Tryz.prog os ⟨#[],#[],[]⟩with heap:=((((((World.holding Tryz.prog os ⟨#[],#[],[]⟩).heap.modify 0 (C6 (mN.map (Value.int .i64)).toArray)).modify 3 (C6 FP.toArray)).modify 1 (C6 (ug.map λl=>Value.string (strOf l)).toArray)).modify 5 (C6 (gb.map (Value.int .u8)).toArray)).modify 2 (C6 (agp.map (Value.int .u64)).toArray)).modify 4 (C6 (agq.map (Value.int .u8)).toArray) }
def own:ownKnob Tryz.prog.godebug=none:=by kernel_rfl
def laidOut:laidOutB Tryz.prog=true:=by kernel_rfl
def VE{l:List α}{q:α->Bool}(h:l.all q=true){x:α}(ae:x∈l):q x=true:=eP.1 h x ae
def agr{L:List (String×DataW Unit)}(b9:laidMetH Tryz.prog L W)(he:L=[("math/bits.deBruijn32tab",YtjambecdkaahmaaGreatDoor.Rows.laid_math_bits_deBruijn32tab),("math/bits.deBruijn64tab",YtjambecdkaahmaaGreatDoor.Rows.laid_math_bits_deBruijn64tab),("internal/strconv.uint64pow10",YtjambecdkaahmaaGreatDoor.Rows.laid_internal_strconv_uint64pow10),("bonsai/tree.counts",YtjambecdkaahmaaGreatDoor.Rows.laid_bonsai_tree_counts),("bonsai/print.counts",YtjambecdkaahmaaGreatDoor.Rows.laid_bonsai_print_counts),("bonsai/print.signs",YtjambecdkaahmaaGreatDoor.Rows.laid_bonsai_print_signs)]):e4 (rb W) gb:=by
 subst he;exact af9 (bb:=[]) b9
end Go.V
