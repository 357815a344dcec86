/- Part 6 of what the proofs of this seat share: the executor, data in memory, walks.
-/
import Derived.Test.YtjaibbcbjfapaaaGreatDoorK5
import Derived.Lib.SliceRun
import Derived.Test.YtjaibbcbjfapaaaGreatDoorK2
import Derived.Test.YtjaibbcbjfapaaaGreatDoorK3
import Derived.Test.YtjaibbcbjfapaaaGreatDoorK4
set_option linter.all false
set_option maxHeartbeats 4000000
set_option maxRecDepth 100000
namespace Go.V
open Go
def mO:=@Nat.not_lt_zero
def CY:=@List.filter_cons
def Fl:=@List.nodup_range
def Fm:=@List.any_eq_true
def R4:=@List.reverse_reverse
variable{m7:TypeDesc}{g n t e cO b1 i' j f W n0:Nat}{arr:Array Value}{x os p3 lo hi mx:Operand}{cb xs yD us:List Value}{da a:Option Addr}{w w':World}{u mC:Value}{ut:Option dV}{aH mE dd:dV}{R α:Type}{cs:bk av}{args:List av}{ts:Array Nat}{P:Program}{E:Env}{c8 hJ:IntKind}{op:Op}{dst:Option Nat}{D bE D0:bU}{F df:Fr}{call:av->List av->bx->Option (av×bx)}{ops:List Oper}{b:Bool}{β:Nat->Nat}{X:c3}{Q:Exit->Act->World->Prop}{Y:gX}{I dU I':aI}{M M0 M':List aD}{row:List (Nat×Nat)}{ex:tk}{ps:List Nat}{fu body:Code}{jv:Loc}{G:GT}{pr:me}
section
variable{P:Program}{w:World}
def aaK(t u ty e:Nat)(i:TypeInfo)(au:P.underlying t=some (.slice e))(hu:P.underlying u=some m7)(ob:∀ k,m7≠.int k)(hi:P.info? e=some i)
 {off c T:Nat} (az:w.heap[g]?=some (.cells arr T (0,0))) {x:Value} {m:Nat} (aa:∀ v∈cb,v.oneCell'=true)
  (c0:∀ w',(Builtin.lenOf x).run P w'=.ok m w') (e3:(Builtin.firstCells i.size m x).run P w=.ok cb.toArray w) (uN:n+m<=c) (ir:off+n*i.size+cb.length<=arr.size) :
  (Builtin.append_ #[t,u] ty #[.slice (some ⟨g,off,none⟩) n c,x]).run P w=.ok (.slice (some ⟨g,off,none⟩) (n+m) c) (w.setRow g (cp arr.toList (off+n*i.size) cb).toArray):=by
 have G3:(match m7 with | .int _=>true | _=>false)=false:=by cases m7<;>first | rfl | exact(ob _ rfl).elim
 have fB:=run_storeCells_at P g (off+n*i.size) T cb 0 arr w az Id aa;simp only[pF]at fB;have R5:(Addr.add ⟨g,off,none⟩ (n*i.size))=⟨g,off+n*i.size,none⟩:=eK _ rfl _;simp[Builtin.append_,run_underlying au,run_underlying hu,sizeOf,typeInfo,hi,c0,uN,e3,R5,fB,cp]
def amD(t u ty e:Nat)(i:TypeInfo)(z:Value)(au:P.underlying t=some (.slice e))(hu:P.underlying u=some m7)(ob:∀ k,m7≠.int k)(hi:P.info? e=some i)(bg:i.zero=some z)(qB:z.cells.size=i.size)
 {c:Nat} (hold:(Builtin.firstCells i.size n (.slice da n c)).run P w.drew=.ok xs.toArray w.drew) (rT:xs.length=n*i.size) {x:Value} {m:Nat} (ay:cb.length=m*i.size)
  (c0:∀ w',(Builtin.lenOf x).run P w'=.ok m w') (e3:(Builtin.firstCells i.size m x).run P w.drew=.ok cb.toArray w.drew) (uN:c<n+m) (b1:n+m<=maxLen) (b8:(n+m)*i.bytes<=140737488355328) :
  ∃ cap aR,(Builtin.append_ #[t,u] ty #[.slice da n c,x]).run P w=.ok (.slice (some ⟨w.heap.size,0,none⟩) (n+m) cap) (w.drew.alloc (.cells (xs++cb++aR).toArray e (0,0)))/\n+m<=cap/\cap<=maxLen/\(xs++cb++aR).length=cap*i.size:=by
 have G3:(match m7 with | .int _=>true | _=>false)=false:=by cases m7<;>first | rfl | exact(ob _ rfl).elim
 have aE:¬ (n+m<=c):=by omega
 have iU:n+m<=9223372036854775807:=by simp only[maxLen]at b1;exact b1
 have BN:¬ (9223372036854775807<((n:Int)+(m:Int))):=by omega
 have BO:¬ (281474976710656<Builtin.nextslicecap (n+m) c*i.bytes):=by have:=growslice_fits (by omega:c<n+m) b8;omega
 have cM:=grownCap_ge w (n+m) c e;have l6:grownCap w (n+m) c e<=maxLen:=grownCap_le_maxLen w (n+m) c e b1;refine⟨grownCap w (n+m) c e,(Builtin.zeroCells z.cells (grownCap w (n+m) c e-(n+m))).toList,?_,cM,l6,?_⟩
 ·simp[Builtin.append_,run_underlying au,run_underlying hu,sizeOf,typeInfo,zeroValue,hi,bg,c0,aE,BN,BO,Question.forced,e3,hold,newRow,grownCap];congr 2;apply lY;simp
 ·rw[ct,ct,rT,ay,wx,size_zeroCells,qB,<-kD,<-kD];congr 1;omega
end
section
variable{X:c3}{G:GT}{pr:me}{D:bU}{m m':bx}{F:Fr}{ap:bk av}{C:dB}{I:aI}{M:List aD}{K:gx}{o:Oper}{v:av}
def cG.Mb{ad:Addr}{vs:List Value}(h:cG I M ad n vs)(lz:eJ I M w)(j:Nat)(v:Value)(ai:vs[j]?=some v):w.cell? (ad.add j)=some v:=by
 obtain⟨de,cs,T,ap,eF,an,ay⟩:=h;rw[eK _ de,th (eF.heap lz)];rw[<-an,lv]at ai;split at ai
 ·rw[nC]at ai;simpa using ai
 ·cases ai
def amE{x:av}{k:Nat}{K:List av->Option R}{r:R}(h:E2 G m.t x aH.size K=some r)(aw:w5 ut aH x=true)(ae:aY D x u)(hm:dq (eg X G pr) D m I M)(af:sV x=some k)(ax:k≠0) :
  ∃ l vs,K l=some r/\bQ D l vs/\(∀ w',(Builtin.lenOf u).run X.P w'=.ok k w')/\(∀ w,eJ I M w->(Builtin.firstCells aH.size k u).run X.P w=.ok vs.toArray w)/\vs.length=k*aH.size /\
   ((∃ a b z e,ut=some ⟨a,b,z,.slice e⟩)\/∃ a b z,ut=some ⟨a,b,z,.string⟩):=by
 have R6:(∃ a b z e,ut=some ⟨a,b,z,.slice e⟩)\/∃ a b z,ut=some ⟨a,b,z,.string⟩:=by
  unfold w5 at aw;split at aw<;>first | exact .inl ⟨_,_,_,_,rfl⟩ | exact .inr ⟨_,_,_,rfl⟩ | cases aw
 cases x<;>simp only[E2]at h<;>first | cases h | skip
 case sn=>simp[sV,w4]at af;exact(ax af.symm).elim
 case so=>simp[sV,w4]at af;exact(ax af.symm).elim
 case sl id off n c=>
  simp only[sV,w4,kW]at af;subst af;obtain⟨a,a8,rfl⟩:=ae.sW;obtain⟨ad,l,vs,aN,bj,ay,h⟩:=w9 (u:=.pointer (some ⟨a.b,a.o+off,none⟩)) hm f7 h;cases aN;have xe:=bj;obtain⟨_,_,_,_,_,_,c0⟩:=xe;exact⟨l,vs,h,ay,λ_=>rfl,λw hw=>run_firstCells_some (P:=X.P) w aH.size n _ n c vs c0 (λj v ai=>bj.Mb hw j v ai),c0,R6⟩
 case sx id off e n=>
  simp only[sV,w4,kW]at af;subst af;obtain⟨a,a8,_,rfl⟩:=ae.vo;obtain⟨ad,l,vs,aN,bj,ay,h⟩:=w9 (u:=.pointer (some ⟨a.b,a.o+off,none⟩)) hm f7 h;cases aN;have xe:=bj;obtain⟨_,_,_,_,_,_,c0⟩:=xe;exact⟨l,vs,h,ay,λ_=>rfl,λw hw=>run_firstCells_some (P:=X.P) w aH.size n _ n _ vs c0 (λj v ai=>bj.Mb hw j v ai),c0,R6⟩
 case s q=>
  simp only[sV,kW]at af;subst af;have amF:aH.size=1:=by
   unfold w5 at aw;split at aw<;>first | exact ei aw | (rename_i e;cases e) | cases aw
  have:=ae.str;subst this;have aM:(⟨q.toArray⟩:ByteArray).size=q.length:=by simp[ByteArray.size]
  refine⟨_,lH ⟨q.toArray⟩,h,aaJ q,λw=>?_,λw hw=>?_,by simp[lH,amF],R6⟩;·show Result.ok _ _=_;rw[aM]
  ·have:=V3 w aH.size (P:=X.P) ⟨q.toArray⟩;rw[aM]at this;exact this
theorem R7(aQ:cX X.P X.E)(aj:∀ d,o.dst=some d->d<X.n){s:Operand}{u:Nat}(aG:o.op=.call { callee:=.builtin .append,args:=#[s,x],argTypes:=#[t,u] })
 (au:X.E t=some ⟨cO,b1,yD,.slice e⟩) (hu:X.E u=some mE) (fP:∀ k,mE.bM≠.int k) (he:X.E e=some aH)
 {c k:Nat} {R8:Value} (aw:bI F s=.val (.slice da n c)) (ae:bI F x=.val R8) (rT:xs.length=n*aH.size) (pM:cb.length=k*aH.size) (aa:fG cb=true)
  (c0:∀ w',(Builtin.lenOf R8).run X.P w'=.ok k w') (e3:∀ w,eJ I M w->(Builtin.firstCells aH.size k R8).run X.P w=.ok cb.toArray w)
  (hold:∀ w,eJ I M w->(Builtin.firstCells aH.size n (.slice da n c)).run X.P w=.ok xs.toArray w) (b1:n+k<=maxLen) (b8:(n+k)*aH.bytes<=140737488355328)
  (amG:n+k<=c->∃ g off T arr ba post,da=some ⟨g,off,none⟩/\M=ba++⟨g,.cells arr T (0,0)⟩::post/\off+n*aH.size+cb.length<=arr.size /\ K (put o.dst (.val (.slice da (n+k) c)) F) C I (ba++⟨g,.cells (cp arr.toList (off+n*aH.size) cb).toArray T (0,0)⟩::post))
  (amH:c<n+k->∀ b cap aR,I b=none->(∀ y∈M,y.num≠b)->n+k<=cap->cap<=maxLen->(xs++cb++aR).length=cap*aH.size ->
   K (put o.dst (.val (.slice (some ⟨b,0,none⟩) (n+k) cap)) F) C I (⟨b,.cells (xs++cb++aR).toArray e (0,0)⟩::M)):bz X o F C I M K:=by
 refine⟨λa w Q ⟨β,aZ⟩=>?_⟩;obtain⟨inf,z,hi,fp,hs,h8,j'⟩:=(aQ _ _ he).inf;obtain⟨d,fQ,eZ⟩:=(aQ _ _ hu).fA;obtain⟨g7,iu,k2⟩:=(aQ _ _ au).fA;have oY:g7=.slice e:=by cases g7<;>simp_all[fz]
 subst oY;have qB:z.cells.size=inf.size:=by rw[fp,<-(aQ _ _ he).len,<-j'];simp
 have es:=dt aZ.ap aw;have ex:=dt aZ.ap ae;have ob:∀ k,d≠.int k:=λk cY=>fP k ask;rw[<-fp]at rT pM hold e3;by_cases uN:n+k<=c
 ·obtain⟨g,off,T,arr,ba,post,rfl,bd,ir,af⟩:=amG uN;rw[<-fp]at ir af;have az:w.heap[g]?=some (.cells arr T (0,0)):=aZ.holds.m ⟨g,.cells arr T (0,0)⟩ (by rw[bd];simp);have fk:=aaK (P:=X.P) (w:=w) t u o.type e inf iu fQ ob hi az (zh aa) c0 (e3 w aZ.holds) uN ir;refine iQ f9 ?_ ⟨_,_,_,_,⟨β,cT.put (x:=.val (.slice (some ⟨g,off,none⟩) (n+k) c)) (aZ.xK bd) aj rfl⟩,af⟩;unfold execOp;simp only[aG,resolve,invoke,builtin,cz,dn,cd,rs,ch,hd,es,ex,fk]
 ·have lz:eJ I M w.drew:=aZ.holds.heap rfl;obtain⟨cap,aR,fk,ab,al,aL⟩:=amD (P:=X.P) (w:=w) t u o.type e inf z iu fQ ob hi h8 qB (hold w.drew lz) rT pM c0 (e3 w.drew lz) Z b1 as';have nb:cT X β a w.drew F C I M:=aZ.world rfl;rw[fp]at aL;refine iQ f9 ?_ ⟨_,_,_,_,⟨β,cT.put (x:=.val (.slice (some ⟨w.heap.size,0,none⟩) (n+k) cap)) (nb.n' (.cells (xs++cb++aR).toArray e (0,0))) aj rfl⟩,amH Z w.heap.size cap aR aZ.holds.sm aZ.holds.q7 ab al aL⟩;unfold execOp;simp only[aG,resolve,invoke,builtin,cz,dn,cd,rs,ch,hd,es,ex,fk]
def aaL{u:Nat}{x:av}(h:w5 (X.E u) aH x=true):∃ mE,X.E u=some mE/\∀ k,mE.bM≠.int k:=by
 unfold w5 at h;split at h<;>first | (cases h;done) | (rename_i e;exact⟨_,e,am⟩) | (rename_i e _;exact⟨_,e,am⟩) | (rename_i e _ _;exact⟨_,e,am⟩)
def amI{s:av}(h:E3 s=true)(aw:aY D s u):∃ a n c,u=.slice a n c/\n<=c:=by
 cases s<;>simp only[E3,lX]at h
 case sn=>exact⟨_,_,_,aw.CP,cf _⟩
 case so=>obtain⟨a,c,rfl⟩:=aw.LX;exact⟨_,_,_,rfl,dh _⟩
 case sl=>obtain⟨a,_,rfl⟩:=aw.sW;exact⟨_,_,_,rfl,bJ h⟩
 case sx=>obtain⟨a,_,bo,rfl⟩:=aw.vo;exact⟨_,_,_,rfl,Z⟩
def amJ{x:av}(aw:w5 ut aH x=true)(ae:aY D x u)(af:sV x=some 0):(∃ b c,u=.slice b 0 c)\/u=.string .empty:=by
 cases x<;>simp[sV,w4]at af
 case sn=>exact .inl ⟨_,_,ae.CP⟩
 case so=>obtain⟨a,c,rfl⟩:=ae.LX;exact .inl ⟨_,_,rfl⟩
 case sl=>subst af;obtain⟨a,_,rfl⟩:=ae.sW;exact .inl ⟨_,_,rfl⟩
 case sx=>subst af;obtain⟨a,_,_,rfl⟩:=ae.vo;exact .inl ⟨_,_,rfl⟩
 case gs=>subst af;exact .inl ⟨_,_,ae.RJ⟩
 case s=>subst af;exact .inr ae.str
noncomputable abbrev R9(X:c3)(G:GT)(m:bx)(s x:av)(aH:dV)(aA e:Nat):List av->Option (av×bx):=λl=>bw (some aA) none λk=>cc (Nat.beq k 0) (cc (E3 s) (some (s,m)) none) (cc (l.all av.one) (H9 G m s l k aH.size aH.bytes e) none)
def amK(aQ:cX X.P X.E)(aj:∀ d,o.dst=some d->d<X.n){u:Nat}(aG:o.op=.call { callee:=.builtin .append,args:=#[os,p3],argTypes:=#[t,u] })
 (au:X.E t=some ⟨cO,b1,yD,.slice e⟩) {s x:av} (vr:w5 (X.E u) aH x=true) (he:X.E e=some aH) (af:sV x=some 0) {us:Value}
  (es:bI F os=.val us) (gs:aY D s us) (ex:bI F p3=.val mC) (AD:aY D x mC) (h:E2 G m.t x aH.size (R9 X G m s x aH 0 e)=some (v,m'))
  (hm:dq (eg X G pr) D m I M) (k:rS X G pr D m I M v m' o.dst F C K):bz X o F C I M K:=by
 have ab:∃ l,R9 X G m s x aH 0 e l=some (v,m'):=by
  cases x<;>simp only[E2]at h<;>first | cases h | exact⟨_,h⟩ | skip
  case sl=>obtain⟨a,a8,rfl⟩:=AD.sW;obtain⟨_,l,_,_,_,_,h⟩:=w9 (u:=.pointer (some ⟨a.b,a.o+_,none⟩)) hm f7 h;exact⟨l,h⟩
  case sx=>obtain⟨a,a8,_,rfl⟩:=AD.vo;obtain⟨_,l,_,_,_,_,h⟩:=w9 (u:=.pointer (some ⟨a.b,a.o+_,none⟩)) hm f7 h;exact⟨l,h⟩
 obtain⟨l,ab⟩:=ab;have al:cc (E3 s) (some (s,m)) none=some (v,m'):=ab;obtain⟨ar,al⟩:=f' al;cases al;obtain⟨a,n,c,rfl,na⟩:=amI ar gs;obtain⟨mE,hu,fP⟩:=aaL vr;exact bz.KJ aQ aG aj au rfl hu fP he es na ex (amJ vr AD af) (k D _ M bU.pw gs hm)
theorem amL(aQ:cX X.P X.E)(aj:∀ d,o.dst=some d->d<X.n){u:Nat}(aG:o.op=.call { callee:=.builtin .append,args:=#[os,p3],argTypes:=#[t,u] })
 (au:X.E t=some ⟨cO,b1,yD,.slice e⟩) (hu:X.E u=some mE) (fP:∀ k,mE.bM≠.int k) (he:X.E e=some aH) {us:Value} {id off n c aA:Nat}
  (es:bI F os=.val us) (gs:aY D (.sl id off n c) us) (ex:bI F p3=.val mC) {l:List av} {vs:List Value} (h:Ro G m id off n c l aA aH.size e=some (v,m')) (iU:n+aA<=maxLen) (iR:(n+aA)*aH.bytes<=140737488355328)
  (ay:bQ D l vs) (sK:vs.length=aA*aH.size) (aa:fG vs=true) (c0:∀ w',(Builtin.lenOf mC).run X.P w'=.ok aA w') (e3:∀ w,eJ I M w->(Builtin.firstCells aH.size aA mC).run X.P w=.ok vs.toArray w)
  (hm:dq (eg X G pr) D m I M) (k:rS X G pr D m I M v m' o.dst F C K):bz X o F C I M K:=by
 have IA:∀ {q:List Value} {c:Nat},q.length=c*aH.size->∀ i,(eg X G pr).E e=some i->q.length=c*i.size:=λaM i hi=>by have:X.E e=some i:=hi;rw[he]at this;cases this;exact aM
 obtain⟨a,a8,rfl⟩:=gs.sW;unfold Ro at h;by_cases ag:n+aA<=c
 ·have ah:Nat.ble (Nat.add n aA) c=true:=EQ ag;rw[ah]at h;have bu:yx m (.p id (Nat.add off (Nat.mul n aH.size))) l (λm=>some (av.sl id off (Nat.add n aA) c,m))=some (v,m'):=h;obtain⟨m2,ab,-,-,al⟩:=R0 (Y:=eg X G pr) bu;cases ab;obtain⟨g,Oo,ba,post,arr,T,aN,bd,ir,oQ,⟨jb,cY,jv,kq,En,az⟩,mM⟩:=al hm (u:=.pointer (some ⟨a.b,a.o+(off+n*aH.size),none⟩)) f7 ay;cases aN;refine⟨λac w Q ⟨β,aZ⟩=>?_⟩;obtain⟨inf,z,hi,fp,hs,h8,j'⟩:=(aQ _ _ he).inf;obtain⟨d,fQ,eZ⟩:=(aQ _ _ hu).fA;obtain⟨g7,iu,k2⟩:=(aQ _ _ au).fA;have oY:g7=.slice e:=by cases g7<;>simp_all[fz]
  subst oY;have az:w.heap[a.b]?=some (.cells arr T (0,0)):=aZ.holds.m ⟨a.b,.cells arr T (0,0)⟩ (by rw[bd];simp);have vq:=dt aZ.ap es;have CZ:=dt aZ.ap ex;rw[<-fp]at e3;have fk:=aaK (P:=X.P) (w:=w) t u o.type e inf iu fQ (λk cY=>fP k ask) hi az (zh aa) c0 (e3 w aZ.holds) ag (off:=a.o+off) (by rw[fp];omega);rw[fp,uz]at fk;have nb:=aZ.xK (cs':=(cp arr.toList (a.o+(off+n*aH.size)) vs).toArray) bd;refine iQ f9 ?_ ⟨_,_,_,_,⟨β,cT.put (x:=.val (.slice (some ⟨a.b,a.o+off,none⟩) (n+aA) c)) nb aj rfl⟩,?_⟩;·unfold execOp;simp only[aG,resolve,invoke,builtin,cz,dn,cd,rs,ch,hd,vq,CZ,fk]
  ·exact k D _ _ bU.pw f7 mM
 ·have ah:Nat.ble (Nat.add n aA) c=false:=by
   cases ah:Nat.ble (Nat.add n aA) c with
   |false=>rfl| true=>exact absurd (bJ ah) ag
  rw[ah]at h;have bu:tX G m.t (.p id off) (Nat.mul n aH.size) (λdR=>vm m (dR++l) e λid m=>some (av.sx id 0 0 (Nat.add n aA),m))=some (v,m'):=h;obtain⟨ad,dR,xs,aN,bj,ft,ab⟩:=w9 (u:=.pointer (some ⟨a.b,a.o+off,none⟩)) hm f7 bu;cases aN;obtain⟨m2,cA,aE,eB⟩:=RW (Y:=eg X G pr) ab;cases cA;have xe:=bj;obtain⟨_,_,_,_,_,_,kk⟩:=xe;refine R7 aQ aj aG au hu fP he es ex kk sK aa c0 e3 (λw hw=>run_firstCells_some (P:=X.P) w aH.size n _ n c xs kk (λj v ai=>bj.Mb hw j v ai)) iU iR (λg4=>(ag g4).elim) λ_ b cap aR bG aC yE yF rU=>?_;refine k _ _ _ bU.Fi ?_ (eB aR hm aC (ft.append ay) (IA rU) yF);simp only[aY];exact⟨_,bU.p8 _ _ _,by simpa using yE,am⟩
def amM(aQ:cX X.P X.E)(aj:∀ d,o.dst=some d->d<X.n){u:Nat}(aG:o.op=.call { callee:=.builtin .append,args:=#[os,p3],argTypes:=#[t,u] })
 (au:X.E t=some ⟨cO,b1,yD,.slice e⟩) (hu:X.E u=some mE) (fP:∀ k,mE.bM≠.int k) (he:X.E e=some aH) {us:Value} {id n fR aA:Nat}
  (es:bI F os=.val us) (gs:aY D (.sx id 0 0 n) us) (ex:bI F p3=.val mC) (az:m.t.get id=some (.cells cs e fR)) {l:List av} {vs:List Value} (h:Rp m id n cs fR l aA aH.size e=some (v,m')) (iU:n+aA<=maxLen) (iR:(n+aA)*aH.bytes<=140737488355328)
  (ay:bQ D l vs) (sK:vs.length=aA*aH.size) (aa:fG vs=true) (c0:∀ w',(Builtin.lenOf mC).run X.P w'=.ok aA w') (e3:∀ w,eJ I M w->(Builtin.firstCells aH.size aA mC).run X.P w=.ok vs.toArray w)
  (hm:dq (eg X G pr) D m I M) (k:rS X G pr D m I M v m' o.dst F C K):bz X o F C I M K:=by
 obtain⟨a,a8,bo,rfl⟩:=gs.vo;have qp:=hm.ja _ _ _ az a8;obtain⟨arr,yG,bd,dy,ar,af,iz⟩:=qp;unfold Rp at h;obtain⟨Az,h⟩:=f' h;have aaM:n*aH.size<=fR:=bJ Az;obtain⟨t1,ab,al⟩:=bk.pk (none:Option fD) m.t id;rw[ab]at h;obtain⟨cs',aL,bB⟩:=bk.yA l cs (Nat.mul n aH.size);have bu:bk.yt l cs (Nat.mul n aH.size) (λcs=>CJ (⟨t1,m.n⟩:bx) (.cells cs e (Nat.mul (Nat.add n aA) aH.size)) λid m=>some (av.sx id 0 0 (Nat.add n aA),m))=some (v,m'):=h;rw[aL]at bu;obtain⟨t2,cA,eB⟩:=Iw bu;cases eB;have iD:∀ i fi,t1.get i=some fi->i≠id/\m.t.get i=some fi:=λi fi hi=>by
  rcases al i fi hi with⟨_,e6⟩ | e6;·cases e6
  ·exact e6
 have aaN:dq (eg X G pr) D ⟨t1,m.n⟩ I M:=⟨λi fi b hi=>hm.ja i fi b (iD i fi hi).2,λi gZ fi AE b il hi ck=>hm.inj i gZ fi AE b il (iD i fi hi).2 (iD gZ AE ck).2,hm.j2,hm.qO⟩;have aaO:arr.size=a.c*aH.size:=by have:=af aH he;rw[yG,dg]at this;exact this
 have LW:=ay.len;have rT:((arr.toList.take (n*aH.size)).length=n*aH.size):=by rw[fF,wx];omega
 have Hz:∀ j,j<n*aH.size->∀ v,cs.get j=some v->∃ x,(arr.toList.take (n*aH.size))[j]?=some x/\aY D v x:=λj ai v an=>by obtain⟨x,bb,bh⟩:=ar j v Z an;rw[yG,dg]at bb;exact⟨x,by rw[lv,bY ai];simpa using bb,bh⟩
 have aaP:∀ (bE:bU) (M':List aD) (b fv:Nat) (bq:List Value),D.le bE->(⟨b,.cells (arr.toList.take (n*aH.size)++vs++bq).toArray e (0,0)⟩:aD)∈M'->(arr.toList.take (n*aH.size)++vs++bq).length=fv*aH.size->fv<=maxLen ->
   lR bE X.E M' ⟨b,0,fv⟩ (.cells cs' e (Nat.mul (Nat.add n aA) aH.size)):=by
  intro bE M' b fv bq dH yH amN amO;have hmul:(n+aA)*aH.size=n*aH.size+aA*aH.size:=kD _ _ _;refine .cells _ rfl yH ?_ (λi v hi Iy=>?_) (λi hi=>?_) amO;·show 0+(n+aA)*aH.size<=_;rw[q6,ct,ct,rT,sK];omega
  ·have ck:i<n*aH.size+aA*aH.size:=by have:i<(n+aA)*aH.size:=hi;omega
   simp only[dg,Bi];rcases bB i v Iy with⟨bb,bh⟩ | ⟨bb,bh⟩;·have Mc:n*aH.size<=i:=bb;obtain⟨x,b2,gg⟩:=ay.get (i:=i-n*aH.size) bh;refine⟨x,?_,gg.mono dH⟩;rw[ej,l4 Z,rT,sv Z];exact b2
   ·have Mc:i<n*aH.size:=by
     rcases bb with bb | bb;·exact bb
     ·have:n*aH.size+l.length<=i:=bb;omega
    obtain⟨x,b2,gg⟩:=Hz i Mc v bh;refine⟨x,?_,gg.mono dH⟩;rw[ej,sv Z];exact b2
  ·rw[he]at hi;cases hi;simpa using amN
 refine R7 aQ aj aG au hu fP he es ex rT sK aa c0 e3 (λw hw=>?_) iU iR (λag=>?_) λ_ b cap aR bG aC yE yF rU=>?_
 ·refine run_firstCells_some (P:=X.P) w aH.size n _ n _ _ rT λj v ai=>?_;rw[eK _ rfl,th (hw.m _ bd)];rw[lv]at ai;split at ai
  ·rw[yG];simpa using ai
  ·cases ai
 ·
  obtain⟨ba,post,de⟩:=vj bd;rw[EA]at ag;have ir:a.o+0+n*aH.size+vs.length<=arr.size:=by have dW:=oJ aH.size ag;rw[kD]at dW;rw[yG,aaO,sK];omega
  refine⟨a.b,a.o+0,e,arr,ba,post,rfl,de,ir,?_⟩;have aaQ:cp arr.toList (a.o+0+n*aH.size) vs=arr.toList.take (n*aH.size)++vs++arr.toList.drop (n*aH.size+vs.length):=by rw[yG];simp only[cp,dg]
  rw[aaQ];have nK:∀ q∈M,q.num≠a.b->q∈ba++(⟨a.b,.cells (arr.toList.take (n*aH.size)++vs++arr.toList.drop (n*aH.size+vs.length)).toArray e (0,0)⟩:aD)::post:=λq aM aE=>by
   rw[de]at aM;rcases cW.1 aM with aM | aM;·exact cW.2 (.inl aM)
   ·rcases ez.1 aM with rfl | aM
    ·exact(aE rfl).elim
    ·exact cW.2 (.inr (n2 _ aM))
  have IB:∀ i fi b,t1.get i=some fi->D i=some b->b.b≠a.b:=λi fi b hi ah C0=>(iD i fi hi).1 (hm.inj _ _ _ _ _ _ (iD i fi hi).2 az ah a8 C0);refine k _ _ _ bU.Fi ?_ (aaN.step (m:=⟨t1,m.n⟩) (j:=m.n) (λi fi hi=>(cA i fi hi).imp (λq=>⟨q.1,pt q.2⟩) λq=>q) (D.p8 _ ⟨a.b,0,a.c⟩) (bU.Ax _ hm.fresh) (λi hi=>by unfold bU.set;rw[bK hi]) (λi b ah=>?_) (λ_ _ h=>h) (λi fi b bH hi ah q aM aE=>nK q aM (by rw[aE];exact IB i fi b hi ah)) (aaP _ _ _ _ (arr.toList.drop (n*aH.size+vs.length)) (bU.Ax _ hm.fresh) am ?_ iz) λi fi b bH hi ah=>IB i fi b hi ah);·simp only[aY];exact⟨_,bU.p8 _ _ _,by simpa using ag,by rw[yG];rfl⟩
  ·unfold bU.set at ah;split at ah
   ·show i<m.n+1;omega
   ·have:=hm.j2 _ _ ah;show i<m.n+1;omega
  ·rw[<-aaQ,RZ Id];simpa using aaO
 ·
  refine k _ _ _ bU.Fi ?_ (aaN.new (m:=⟨t1,m.n⟩) (a:=⟨b,0,cap⟩) cA aC (aaP _ _ _ _ _ (bU.Ax _ hm.fresh) am rU yF));simp only[aY];exact⟨_,bU.p8 _ _ _,by simpa using yE,am⟩
def amP(aQ:cX X.P X.E)(aj:∀ d,o.dst=some d->d<X.n){u:Nat}(aG:o.op=.call { callee:=.builtin .append,args:=#[os,p3],argTypes:=#[t,u] })
 (au:X.E t=some ⟨cO,b1,yD,.slice e⟩) {s x:av} (vr:w5 (X.E u) aH x=true) (he:X.E e=some aH) {aA:Nat} (af:sV x=some aA) (ax:aA≠0) {us:Value}
  (es:bI F os=.val us) (gs:aY D s us) (ex:bI F p3=.val mC) (AD:aY D x mC) (h:E2 G m.t x aH.size (R9 X G m s x aH aA e)=some (v,m'))
  (hm:dq (eg X G pr) D m I M) (k:rS X G pr D m I M v m' o.dst F C K):bz X o F C I M K:=by
 obtain⟨l,vs,ab,ay,c0,e3,sK,_⟩:=amE (ut:=X.E u) h vr AD hm af ax;have al:cc (Nat.beq aA 0) (cc (E3 s) (some (s,m)) none) (cc (l.all av.one) (H9 G m s l aA aH.size aH.bytes e) none)=some (v,m'):=ab;rw[hT ax]at al;have aL:cc (l.all av.one) (H9 G m s l aA aH.size aH.bytes e) none=some (v,m'):=al;obtain⟨oQ,aL⟩:=f' aL;have aa:=ay.one oQ;obtain⟨mE,hu,fP⟩:=aaL vr;have IA:∀ {q:List Value} {c:Nat},q.length=c*aH.size->∀ i,(eg X G pr).E e=some i->q.length=c*i.size:=λaM i hi=>by have:X.E e=some i:=hi;rw[he]at this;cases this;exact aM
 cases s<;>simp only[H9]at aL<;>first | cases aL | skip
 case sn=>
  obtain⟨ah,bB⟩:=f' aL;rw[cH]at ah;obtain⟨m2,cA,aE,eB⟩:=RW (Y:=eg X G pr) bB;cases cA;have mP:=gs.CP;subst mP;have iU:0+aA<=maxLen:=by rw[dg];exact bJ ah.2
  have iR:(0+aA)*aH.bytes<=140737488355328:=by rw[dg];exact bJ ah.1
  refine R7 aQ aj aG au hu fP he (n:=0) (c:=0) (xs:=[]) es ex am sK aa c0 e3 (λw _=>by simp[run_firstCells_none]) iU iR (λag=>Z) λ_ b cap aR bG aC yE yF rU=>?_;refine k _ _ _ bU.Fi ?_ (eB aR hm aC ay (IA rU) yF);simp only[aY];exact⟨_,bU.p8 _ _ _,by simpa using yE,am⟩
 case sl=>
  obtain⟨ah,bB⟩:=f' aL;rw[cH]at ah;exact amL aQ aj aG au hu fP he es gs ex bB (bJ ah.2) (bJ ah.1) ay sK aa c0 e3 hm k
 case sx=>
  split at aL;·rename_i az;obtain⟨ah,bB⟩:=f' aL;simp only[cH]at ah;obtain⟨⟨fg,e1⟩,js,Ce,Cf⟩:=ah;have d1:=ei fg;have d2:=ei e1;have d3:=ei js;subst d1;subst d2;subst d3;exact amM aQ aj aG au hu fP he es gs ex az bB (bJ Cf) (bJ Ce) ay sK aa c0 e3 hm k
  ·cases aL
def amQ(aQ:cX X.P X.E)(aj:∀ d,o.dst=some d->d<X.n){args:Array Operand}(aG:o.op=.call { callee:=.builtin .append,args:=args,argTypes:=ts })(h:Rs (eg X G pr) m ts.toList (ou ap args.toList)=some (v,m'))
  (H:jx D F ap args.toList) (hm:dq (eg X G pr) D m I M) (k:rS X G pr D m I M v m' o.dst F C K):bz X o F C I M K:=by
 unfold Rs at h;split at h
 ·rename_i t u s x au ay;split at h
  ·rename_i sa sX sz e oT;obtain⟨aH,he,h⟩:=cB h;obtain⟨vr,h⟩:=f' h;obtain⟨os,p3,ng,gf,CV⟩:=Ma ay;obtain⟨us,es,gs⟩:=H.bI (x:=os) UV gf;obtain⟨mC,ex,AD⟩:=H.bI (x:=p3) UV CV;have CW:args=#[os,p3]:=by apply lY;simpa using ng
   have CX:ts=#[t,u]:=by apply lY;simpa using au
   have wq:o.op=.call { callee:=.builtin .append,args:=#[os,p3],argTypes:=#[t,u] }:=by rw[aG,CW,CX]
   cases af:sV x with
   |none=>
    exfalso;unfold w5 at vr;split at vr<;>first | (cases vr;done) | (simp[sV,w4]at af;done)
   |some aA=>
    rw[af]at h;by_cases ax:aA=0;·subst ax;exact amK aQ aj wq oT vr he af es gs ex AD h hm k
    ·exact amP aQ aj wq oT vr he af ax es gs ex AD h hm k
  ·cases h
 ·cases h
end
section
variable{X:c3}{β:Nat->Nat}{F:Fr}{C:dB}{I:aI}{M:List aD}{o:Oper}{K:gx}
theorem R'(aQ:cX P E)(au:E t=some dd)(dA:dd.bM=.slice e):P.underlying t=some (.slice e):=by
 obtain⟨g7,iu,k2⟩:=(aQ _ _ au).fA;have oY:g7=.slice e:=by rw[dA]at k2;cases g7<;>simp_all[fz]
 rw[iu,oY]
def fm.Sa(aQ:cX P E){y:Operand}(au:E t=some dd)(dA:dd.bM=.slice e){c c':Nat}{V:Value->Prop}{other:Prop}
  (h:V (.bool a.isNone)):fm P .eql t x y (.val (.slice a n c)) (.val (.slice none i' c')) V other:=by
 have aa:=R' aQ au dA;refine .mk _ _ _ rfl rfl (λw=>?_) h;have aN:(eqGuard .eql t x y (.slice a n c) (.slice none i' c')).run P w=.ok () w:=by unfold eqGuard;rfl
 simp only[cz,aN,cd];exact Lib.run_eql_slice_nil w t e a n c i' c' aa
def bz.slice3(aQ:cX X.P X.E)(aG:o.op=.slice t x (some lo) (some hi) (some mx))(aj:∀ d,o.dst=some d->d<X.n)
 (au:X.E t=some dd) (dA:dd.bM=.slice e) (he:X.E e=some aH) {ad:Option Addr} {c:Nat} (l h m:Nat) {eW:IntKind}
  (ae:bI F x=.val (.slice ad n c)) (ft:bI F lo=.val (.int eW (l:Nat))) (gO:bI F hi=.val (.int c8 (h:Nat))) (iz:bI F mx=.val (.int hJ (m:Nat)))
  (aa:l<=h) (ab:h<=m) (al:m<=c) (k:K (put o.dst (.val (.slice (if m=l then ad else ad.map (·.add (l*aH.size))) (h-l) (m-l))) F) C I M):bz X o F C I M K:=by
 refine⟨λa w Q ⟨β,aZ⟩=>?_⟩;have hu:=R' aQ au dA;refine iQ f9 (v:=.slice (if m=l then ad else ad.map (·.add (l*aH.size))) (h-l) (m-l)) (w':=w) ?_ ⟨_,_,_,_,⟨β,cT.put (x:=.val (.slice (if m=l then ad else ad.map (·.add (l*aH.size))) (h-l) (m-l))) aZ aj rfl⟩,k⟩;have ex:=dt aZ.ap ae;have aN:=dt aZ.ap ft;have bc:=dt aZ.ap gO;have cy:=dt aZ.ap iz;simp only[execOp,aG,Instr.sliceAt,Instr.slice,Instr.sliceBounds,Instr.sliceBound,ex,cz,run_underlying hu,cd,(aQ _ _ he).run_sizeOf,dn,lx,uy,aN,bc,cy,q8];rw[bY ⟨Z,Z⟩];simp only[dn,cd,h2];rw[bY ⟨Z,Z⟩];simp only[dn,cd,h2];rw[bY ⟨Z,Z⟩];simp
end
section
variable{X:c3}{G:GT}{pr:me}{D:bU}{m m':bx}{F:Fr}{ap:bk av}{C:dB}{I:aI}{M:List aD}{K:gx}{o:Oper}{v:av}
def amR(aQ:cX X.P X.E)(aj:∀ d,o.dst=some d->d<X.n){args:Array Operand}(aG:o.op=.call { callee:=.builtin .unsafeString,args:=args,argTypes:=ts })(h:Ru (eg X G pr) m ts.toList (ou ap args.toList)=some (v,m'))
  (H:jx D F ap args.toList) (hm:dq (eg X G pr) D m I M) (k:rS X G pr D m I M v m' o.dst F C K):bz X o F C I M K:=by
 unfold Ru at h;split at h
 ·rename_i uI it au ay;cases h;obtain⟨op,on,ng,aa,ab⟩:=Ma ay;obtain⟨ko,aN,bb⟩:=H.bI (x:=op) UV aa;obtain⟨iG,bc,bh⟩:=H.bI (x:=on) UV ab;have CW:args=#[op,on]:=by apply lY;simpa using ng
  have CX:ts=#[uI,it]:=by apply lY;simpa using au
  have Mc:ko=.pointer none:=by simpa only[aY]using bb
  subst Mc;rw[bh.int]at bc;refine bz.Wh (by rw[aG,CW,CX]) aj aN bc (k D _ M bU.pw ?_ hm);simp only[aY];rfl
 ·rename_i uI it id n au ay;split at h
  ·rename_i sa sX sz e cs T fR amS az;obtain⟨aH,he,eB⟩:=cB h;obtain⟨ah,e6⟩:=f' eB;simp only[cH]at ah;obtain⟨op,on,ng,aa,ab⟩:=Ma ay;obtain⟨ko,aN,bb⟩:=H.bI (x:=op) UV aa;obtain⟨iG,bc,bh⟩:=H.bI (x:=on) UV ab;have CW:args=#[op,on]:=by apply lY;simpa using ng
   have CX:ts=#[uI,it]:=by apply lY;simpa using au
   rw[bh.int]at bc;obtain⟨a,a8,rfl⟩:=bb.ptr;have qp:=hm.ja _ _ _ az a8;obtain⟨arr,yG,bd,dy,ar,af,iz⟩:=qp;have IA:=ei ah.2.1;subst IA;unfold tX at e6;simp only[az]at e6;cases Sb:Nat.ble (Nat.add 0 n) fR with
   |false=>rw[Sb]at e6;cases e6| true=>
   rw[Sb]at e6;simp only[cD]at e6;have pM:0+n<=fR:=bJ Sb;obtain⟨l,fg,e1,dW⟩:=bk.E9 cs n 0 _ _ e6;obtain⟨cE,Eb,oZ⟩:=cB dW;obtain⟨O7,Sc⟩:=f' oZ;obtain⟨t1,aL,bB⟩:=bk.pk (none:Option fD) m.t id;rw[aL]at Sc;cases Sc;have u1:(arr.toList.take n).length=n:=by rw[fF,wx];omega
   have Fo:bQ D l (arr.toList.take n):=bQ.Ij (by rw[u1,fg]) λi v hi=>by
    have fx:i<n:=by rw[<-fg];exact(jd.1 hi).1
    obtain⟨x,b2,gg⟩:=ar i v Z (by have:=e1 i fx;rw[dg]at this;rw[this,hi]);rw[yG,dg]at b2;exact⟨x,by rw[lv,bY fx];simpa using b2,gg⟩
   have je:=aaz Eb Fo;have kf:cE.length=n:=by have:=congrArg List.length je;rw[u1]at this;simpa using this.symm
   obtain⟨ba,post,de⟩:=vj bd;have mN:M.Perm (⟨a.b,.cells arr T (0,0)⟩::(ba++post)):=by rw[de];exact lL
   have l2:arr.toList.take cE.length=cE.map λb=>Value.int .u8 b.toNat:=by rw[kf];exact je
   have ax:cE≠[]:=λcY=>by subst cY;have:0<n:=bJ ah.2.2;simp at kf;omega
   have eA:bI F op=.val (.pointer (some ⟨a.b,0,none⟩)):=by rw[aN,yG]
   have q':bI F on=.val (.int .i64 cE.length):=by rw[bc,kf];rfl
   refine bz.O6 aQ (by rw[aG,CW,CX]) aj amS rfl he (ei ah.1) eA q' ax (by rw[kf];exact bJ O7) mN l2 ?_;have iD:∀ i fi,t1.get i=some fi->i≠id/\m.t.get i=some fi:=λi fi hi=>by
    rcases bB i fi hi with⟨_,e6⟩ | e6;·cases e6
    ·exact e6
   refine k D _ _ bU.pw i4 ⟨λi fi b hi iU=>?_,λi gZ fi AE b il hi ck=>hm.inj i gZ fi AE b il (iD i fi hi).2 (iD gZ AE ck).2,hm.j2,hm.qO⟩;refine(hm.ja i fi b (iD i fi hi).2 iU).mono (bU.le_refl D) λq aM aE=>?_;rcases ez.1 (mN.mem_iff.1 aM)with rfl | aM;·exact((iD i fi hi).1 (hm.inj _ _ _ _ _ _ (iD i fi hi).2 az iU a8 aE.symm)).elim
   ·exact aM
  ·cases h
 ·cases h
def amT(aQ:cX X.P X.E)(aj:∀ d,o.dst=some d->d<X.n){v:av}(aG:o.op=.slice t x (some lo) (some hi) (some mx))(h:Rl X.E t (dF ap x) (dF ap lo) (dF ap hi) (dF ap mx)=some v)
  (H:jx D F ap o.op.operands.toList) (hm:dq (eg X G pr) D m I M) (k:∀ x,gG D x v->K (put o.dst x F) C I M):bz X o F C I M K:=by
 unfold Rl at h;split at h
 ·rename_i sz h3 z e id off n c eW l c8 bu hJ gw au ae ft gO iz;obtain⟨aH,he,eB⟩:=cB h;obtain⟨ah,e6⟩:=f' eB;simp only[cH]at ah;obtain⟨b1,b8,eo,gW⟩:=ah;cases e6;have b1:=bJ b1;have b8:=bJ b8;have eo:=bJ eo;have gW:l+1<=gw:=bJ gW;obtain⟨vc,dC,AF⟩:=H.bI (x:=x) io ae;obtain⟨ko,aN,bb⟩:=H.bI (x:=lo) io ft;obtain⟨iG,bc,bh⟩:=H.bI (x:=hi) io gO;obtain⟨tO,cy,b2⟩:=H.bI (x:=mx) io iz;rw[bb.int]at aN;rw[bh.int]at bc;rw[b2.int]at cy;simp only[aY]at AF;obtain⟨a,a8,rfl⟩:=AF;refine bz.slice3 aQ aG aj au rfl he l bu gw dC aN bc cy b1 b8 eo (k _ (.val ?_));simp only[aY];refine⟨a,a8,?_⟩;rw[bK Z,lx,eK _ rfl];simp only[Am,ES,ET,uz]
 ·cases h
def aaR{sz h3:Nat}{z:List Value}{n c h m:Nat}(aG:o.op=.slice t x none (some hi) (some mx))(au:X.E t=some ⟨sz,h3,z,.slice e⟩)(he:X.E e=some aH)
  (ae:bI F x=.val (.slice a n c)) (cU:bI F hi=.val (.int c8 (h:Nat))) (hm:bI F mx=.val (.int hJ (m:Nat))) (aa:h<=m) (ab:m<=c) (k:K (put o.dst (.val (.slice (if m=0 then a else a.map (·.add (0*aH.size))) (h-0) (m-0))) F) C I M):g1 X o F C I M K:=by
 obtain⟨dst,C1,ty,pos,after,guard⟩:=o;simp only at aG;subst aG;have aN:dL (dG F) x=.val (.slice a n c):=ae;have bc:dL (dG F) hi=.val (.int c8 (h:Nat)):=cU;have cy:dL (dG F) mx=.val (.int hJ (m:Nat)):=hm;simp only[g1,cP,au,he,aN,bc,cy,uy,lx];exact⟨h,m,rfl,rfl,aa,ab,k⟩
def amU(aQ:cX X.P X.E)(aj:∀ d,o.dst=some d->d<X.n){v:av}(aG:o.op=.slice t x none (some hi) (some mx))(h:Rk X.E t (dF ap x) (dF ap hi) (dF ap mx)=some v)
  (H:jx D F ap o.op.operands.toList) (hm:dq (eg X G pr) D m I M) (k:∀ x,gG D x v->K (put o.dst x F) C I M):g1 X o F C I M K:=by
 unfold Rk at h;split at h
 ·rename_i sz h3 z e id off n c c8 bu hJ gw au ae gO iz;obtain⟨aH,he,eB⟩:=cB h;obtain⟨ah,e6⟩:=f' eB;simp only[cH]at ah;obtain⟨b8,eo,gW⟩:=ah;cases e6;have b8:=bJ b8;have eo:=bJ eo;have gW:0+1<=gw:=bJ gW;obtain⟨vc,dC,AF⟩:=H.bI (x:=x) io ae;obtain⟨iG,bc,bh⟩:=H.bI (x:=hi) io gO;obtain⟨tO,cy,b2⟩:=H.bI (x:=mx) io iz;rw[bh.int]at bc;rw[b2.int]at cy;simp only[aY]at AF;obtain⟨a,a8,rfl⟩:=AF;refine aaR aG au he dC bc cy b8 eo (k _ (.val ?_));simp only[aY];refine⟨a,a8,?_⟩;rw[bK Z,lx,eK _ rfl];simp
 ·rename_i sz h3 z e id off bc n c8 bu hJ gw au ae gO iz;obtain⟨aH,he,eB⟩:=cB h;obtain⟨ah,e6⟩:=f' eB;simp only[cH]at ah;obtain⟨b8,eo,gW⟩:=ah;cases e6;have b8:=bJ b8;have eo:=bJ eo;have gW:0+1<=gw:=bJ gW;obtain⟨vc,dC,AF⟩:=H.bI (x:=x) io ae;obtain⟨iG,bc,bh⟩:=H.bI (x:=hi) io gO;obtain⟨tO,cy,b2⟩:=H.bI (x:=mx) io iz;rw[bh.int]at bc;rw[b2.int]at cy;simp only[aY]at AF;obtain⟨a,a8,bo,rfl⟩:=AF;refine aaR aG au he dC bc cy b8 Z (k _ (.val ?_));simp only[aY];refine⟨a,a8,?_⟩;rw[bK Z,lx,eK _ rfl];simp
 ·cases h
def amV(aj:∀ d,o.dst=some d->d<X.n){v:av}(aG:o.op=.unOp .xor t x)(h:Rm (dF ap x)=some v)(H:jx D F ap o.op.operands.toList)(k:∀ x,gG D x v->K (put o.dst x F) C I M):g1 X o F C I M K:=by
 unfold Rm at h;split at h
 ·rename_i n ae;cases h;obtain⟨u,e,hu⟩:=H.bI (x:=x) io ae;rw[hu.int]at e;have q:bz X o F C I M K:=bz.G6 aG aj e (k _ (.val i4));obtain⟨dst,C1,ty,pos,after,guard⟩:=o;simp only at aG;subst aG;exact q
 ·cases h
def amW(aG:o.op=.slice t x (some lo) (some hi) (some mx))(k:bz X o F C I M K):g1 X o F C I M K:=by
 obtain⟨dst,C1,ty,pos,after,guard⟩:=o;simp only at aG;subst aG;simp only[g1,cP];split
 ·rename_i e;cases e
 ·rename_i e;cases e
 ·split
  ·rename_i e _;cases e
  ·exact k
 ·exact k
def aaS:Op->Bool
 | .makeMap .. | .lookup .. | .mapUpdate .. | .insert ..=>true| .call { callee:=.builtin .append,.. }=>true| .call { callee:=.builtin .copy,.. }=>true| .call { callee:=.builtin .unsafeString,.. }=>true| _=>false
def AG(aG:o.op=op)(h:aaS op=true)(k:bz X o F C I M K):g1 X o F C I M K:=by
 obtain⟨dst,C1,ty,pos,after,guard⟩:=o;simp only at aG;subst aG;unfold aaS at h;split at h<;>first | exact k | cases h
def amX(aQ:cX X.P X.E)(aj:∀ d,o.dst=some d->d<X.n)(h:Rv (eg X G pr) m o ap=some (v,m'))(H:jx D F ap o.op.operands.toList)(hm:dq (eg X G pr) D m I M)(k:rS X G pr D m I M v m' o.dst F C K):g1 X o F C I M K:=by
 unfold Rv at h;split at h
 ·rename_i t x y aG;exact amv aG h H hm k
 ·rename_i t aG;exact AG aG rfl (aaF aQ aj aG h am hm k)
 ·rename_i t x aG;split at h
  ·rename_i gw n ae;refine AG aG rfl (aaF aQ aj aG h (λy aF=>?_) hm k);cases aF;obtain⟨u,aN,bb⟩:=H.bI (x:=x) io ae;rw[bb.int]at aN;exact⟨_,_,aN⟩
  ·cases h
 ·rename_i t x y ok aG;exact AG aG rfl (amx aQ aj aG h H hm k)
 ·rename_i t x y z aG;exact AG aG rfl (aaH aQ (.inl aG) h H hm k)
 ·rename_i t x y z aG;exact AG aG rfl (aaH aQ (.inr aG) h H hm k)
 ·rename_i s d x aG;have Md:=amz aQ aj aG h H hm k;obtain⟨dst,C1,ty,pos,after,guard⟩:=o;simp only at aG;subst aG;have sI:∃ a b z,X.E d=some ⟨a,b,z,.string⟩:=by
   unfold LM at h;split at h;·exact⟨_,_,_,ayN⟩
   ·exact⟨_,_,_,ayN⟩
   ·exact⟨_,_,_,ayN⟩
   ·cases h
  obtain⟨a,b,z,sI⟩:=sI;simp only[g1,cP,sI];split;·rename_i e _;cases e
  ·exact Md
 ·rename_i b args ts aG;have Sd:jx D F ap args.toList:=by rw[aG]at H;simpa[Op.operands,Call.operands]using H
  unfold ZP at h;split at h;·exact AG aG rfl (amQ aQ aj aG h Sd hm k)
  ·exact AG aG rfl (amA aQ aj aG h Sd hm k)
  ·exact AG aG rfl (amR aQ aj aG h Sd hm k)
  ·cases h
 ·cases h
end
def IC(Y:gX)(call:av->List av->bx->Option (av×bx)):Prop:=∀ f l m v m',call f l m=some (v,m')->∀ (D:bU) (I:aI) (M:List aD) (u:Value) (us:List Value),aY D f u->bQ D l us->dq Y D m I M -> (∃ g dv cs,u=.func (.func g) dv cs/\Spec Y.P g (dv.toList++us++cs.toList) I M λr I' M'=>∃ bE,D.ext bE m.n/\aY bE v r/\dq Y bE m' I' M') \/ ∃ q,u=.func (.yield q) #[] #[]/\D3 Y.P q us I M λr I' M'=>∃ bE,D.ext bE m.n/\aY bE v r/\dq Y bE m' I' M'
def vt(dst:Option Nat)(v:av)(D:bU)(F df:Fr):Prop:=(∀ d,dst=some d->gG D (df d) v)/\∀ (D:bU) t nr,dst≠some t->gG D (F t) nr->gG D (df t) nr
def vt.put{v:av}{x:dK}(F:Fr)(h:gG D x v):vt dst v D F (put dst x F):=by
 constructor
 ·rintro d rfl;simpa[Go.V.put,g0]using h
 ·intro D t nr bH h;cases dst with
  |none=>exact h| some d=>have:t≠d:=λe=>bH (by rw[e]);simp only[Go.V.put,g0,hT this,cw];exact h
def Ay.v(h:Ay dst u F df){v:av}(an:aY D v u):vt dst v D F df:=⟨λd aj=>by rw[h.1 d aj];exact .val an,h.2⟩
section
variable{X:c3}{G:GT}{pr:me}{D:bU}{m m':bx}{F:Fr}{ap:bk av}{C:dB}{I:aI}{M:List aD}{K:gx}{o:Oper}{v:av}
def Me(X:c3)(G:GT)(pr:me)(o:Oper)(ap:bk av)(m:bx)(v:av)(m':bx):Prop:=m.n<=m'.n/\∀ (D:bU) (F:Fr) (C:dB) (I:aI) (M:List aD) (K:gx),jx D F ap o.op.operands.toList->dq (eg X G pr) D m I M -> (∀ bE df C' I' M',D.ext bE m.n->vt o.dst v bE F df->dq (eg X G pr) bE m' I' M'->K df C' I' M')->g1 X o F C I M K
def amY(aG:o.op=op)(af:lO X.E op=0)(h:cP X op (dG F) C I M (λx=>K (put o.dst x F) C I M) (bz X o F C I M K)):g1 X o F C I M K:=by
 obtain⟨dst,C1,ty,pos,after,guard⟩:=o;simp only at aG;subst aG;cases C1 with
 |call c=>
  obtain⟨callee,args,ts⟩:=c;cases callee with
  |value f=>simp[lO]at af| invoke r n=>exact h| builtin b=>exact h
 |alloc t=>simp[lO]at af| box t x=>simp[lO]at af| store t x y=>simp[lO]at af| buildSlice t l ps=>simp[lO]at af| makeSlice t l c=>simp[lO]at af| _=>exact h
def aaT(aQ:cX X.P X.E)(aj:∀ d,o.dst=some d->d<X.n){v:av}(af:lO X.E o.op=0)(h:vl X.P X.E G m.t o.op ap=some v)(H:jx D F ap o.op.operands.toList)(hm:dq (eg X G pr) D m I M)
  (k:∀ x,gG D x v->K (put o.dst x F) C I M):g1 X o F C I M K:=by
 unfold vl at h;split at h
 ·rename_i t x aG;exact amV aj aG h H k
 ·rename_i t x lo hi mx aG;exact amW aG (amT aQ aj aG h H hm k)
 ·rename_i t x hi mx aG;exact amU aQ aj aG h H hm k
 ·exact amY rfl af (amj aQ h H hm k)
def Se{K:bk av->Option R}{r:R}(h:p6 dst ap v K=some r):∃ dm,K dm=some r/\(dst=none->dm=ap)/\∀ d,dst=some d->∀ t w,dm.get t=some w->(t=d/\w=v)\/(t≠d/\ap.get t=some w):=by
 unfold p6 at h;cases dst with
 |none=>exact⟨ap,h,λ_=>rfl,λd aj=>t7⟩
 |some d=>
  have bu:(Rn v λv=>ap.n3 (some v) d K)=some r:=h;rw[alr]at bu;obtain⟨dm,aa,ab⟩:=bk.pk (some v) ap d;rw[aa]at bu;refine⟨dm,bu,(λe=>by cases e),λd' aj t w hw=>?_⟩;cases aj;rcases ab t w hw with⟨aN,bc⟩ | ⟨aN,bc⟩;·exact .inl ⟨aN,(pt bc).symm⟩
  ·exact .inr ⟨aN,bc⟩
def aaU(aQ:cX X.P X.E)(kA:∀ d,d<X.n->X.gP.contains d=true)(aj:∀ d,o.dst=some d->d<X.n)(m9:IC (eg X G pr) call){K:bk av->bx->Option R}{r:R}
  (h:Ap (eg X G pr) call o ap m K=some r):∃ v m' dm,Me X G pr o ap m v m'/\(p6 o.dst ap v λap=>K ap m')=some r/\K dm m'=some r/\(o.dst=none->dm=ap)/\∀ d,o.dst=some d->∀ t w,dm.get t=some w->(t=d/\w=v)\/(t≠d/\ap.get t=some w):=by
 have fin:∀ {v:av} {m':bx},Me X G pr o ap m v m'->(p6 o.dst ap v λap=>K ap m')=some r->∃ v m' dm,Me X G pr o ap m v m'/\(p6 o.dst ap v λap=>K ap m')=some r/\K dm m'=some r/\(o.dst=none->dm=ap)/\∀ d,o.dst=some d->∀ t w,dm.get t=some w->(t=d/\w=v)\/(t≠d/\ap.get t=some w):=fun {v m'} ar aK=>by obtain⟨dm,aa,ab,al⟩:=Se aK;exact⟨v,m',dm,ar,aK,aa,ab,al⟩
 unfold Ap at h;split at h
 ·
  rename_i f args ts aG;unfold ZQ at h;obtain⟨amZ,aC,h⟩:=cB h;obtain⟨l,ay,h⟩:=cB h;obtain⟨⟨v,m'⟩,ar,h⟩:=cB h;obtain⟨aE,h⟩:=f' h;refine fin ⟨bJ aE,λD F C I M K sY hm af=>?_⟩ h;rw[aG]at sY;obtain⟨u,aN,bb⟩:=sY.bI (x:=f) d9 aC;obtain⟨us,bc,bh⟩:=sY.mW (l:=args.toList) (by intro y aF;simp[Op.operands,Call.operands];exact .inr (by simpa using aF)) ay;obtain⟨dst,C1,ty,pos,after,guard⟩:=o;simp only at aG;subst aG;rcases m9 _ _ _ _ _ ar D I M u us bb bh hm with⟨g,dv,cs,rfl,aw⟩ | ⟨q,rfl,aw⟩
  ·simp only[g1,aN,bc];exact a9.whole _ aw λr I' M' bG ae=>by obtain⟨bE,aa,ab,al⟩:=ae;exact af bE _ C I' M' aa (.put F (.val ab)) al
  ·simp only[g1,aN,bc];refine bz.yield rfl aj aN bc ⟨M,[],_,am,aw,λr I' M' bG ae=>?_⟩;obtain⟨bE,aa,ab,al⟩:=ae;rw[dE];exact af bE _ C I' M' aa (.put F (.val ab)) al
 ·rename_i op eV;unfold ZU at h;split at h
  ·rename_i jH;unfold ZS at h;obtain⟨v,an,h⟩:=cB h;refine fin ⟨cf _,λD F C I M K sY hm af=>?_⟩ h;exact aaT aQ aj jH an sY hm λx ae=>af D _ C I M bU.pw (.put F ae) hm
  ·unfold ZR at h;obtain⟨d,eZ,h⟩:=cB h;obtain⟨⟨l,T,c,mk⟩,a8,h⟩:=cB h;obtain⟨m2,ab,aE,al⟩:=RW (Y:=eg X G pr) h;refine fin (v:=mk m.n) (m':=m2) ⟨Z,λD F C I M K sY hm af=>?_⟩ (by rw[eZ];exact ab);refine aav aQ kA aj a8 (by rw[eZ];rfl) sY λb vs u df C' bG aC je c0 ar hu Sf=>?_;have aL:=al (vs:=vs) [] (b:=b) (c:=c) hm aC je (by simpa using c0) ar;rw[dE]at aL;exact af _ df C' I _ bU.Fi (Sf.v (hu _ _ (bU.p8 _ _ _))) aL
  ·unfold ZT at h;obtain⟨⟨v,m'⟩,ae,h⟩:=cB h;obtain⟨aE,h⟩:=f' h;refine fin ⟨bJ aE,λD F C I M K sY hm af=>?_⟩ h;exact amX aQ aj ae sY hm λbE u M' aa ab al=>af bE _ C I M' aa (.put F (.val ab)) al
end
def lS(X:c3)(G:GT)(pr:me)(D0:bU)(n0:Nat)(ap:bk av)(m:bx)(a:Act)(w:World):Prop:=
 ∃ D F C I M,Rel X a w F C I M/\qP D F ap/\dq (eg X G pr) D m I M/\D0.ext D n0/\n0<=m.n
section
variable{X:c3}{G:GT}{pr:me}{D0:bU}{n0:Nat}{m m':bx}{ap dm:bk av}{a:Act}{w:World}
def bU.aaV{Iv:bU}(h:D.ext bE n)(bu:bE.ext Iv i')(aE:n<=i'):D.ext Iv n:=λi hi=>by rw[bu i Z,h i hi]
def am0{ops:Array Oper}{o:Oper}(h:vn ops.toList o ap=some b)(bC:∀ t,fj β (F t) (a.tmps.getD t undef))(xJ:qP D F ap):Region.wanted o (yielded ops a.tmps)=b:=by
 unfold vn at h;split at h
 ·rename_i az;cases h;simp[Region.wanted,az]
 ·rename_i j c az;split at h
  ·cases h
  ·rename_i d ai;have jT:(ops[j]?).bind (·.dst)=some d:=by rw[Au]at ai;simpa using ai
   have aF:=Gw jT a.tmps;split at h
   ·rename_i q aM;cases h;have aw:=xJ _ _ aM;have an:a.tmps.getD d undef=.bool q:=by
     have aa:=bC d;rcases aw with⟨u,e,hu⟩ | ⟨gd,cY,e⟩;·rw[e]at aa;rw[aa,hu.bool]
     ·cases cY;rw[e]at aa;exact aa
    simp[Region.wanted,az,aF,DT an]
   ·rename_i l aM;cases h;have aw:=xJ _ _ aM;obtain⟨u,e,hu⟩:=aw.w8 am;obtain⟨vs,_,rfl⟩:=hu.RK;have aa:=bC d;rw[e]at aa;have v9:yielded ops a.tmps j=none:=by
     rw[aF];cases jF:a.tmps[d]? with
     |none=>rfl| some v=>simp only[fj,ql,jF,kX]at aa;subst aa;rfl
    simp[Region.wanted,az,v9]
   ·cases h
def aaW{o:Oper}{K:bk av->Option R}{r:R}(h:CM o ap K=some r):∃ dm,K dm=some r/\(o.dst=none->dm=ap)/\∀ d,o.dst=some d->∀ t w,dm.get t=some w->(t=d/\w=.t [])\/(t≠d/\ap.get t=some w):=by
 unfold CM at h;cases aj:o.dst with
 |none=>rw[aj]at h;exact⟨ap,h,λ_=>rfl,λd e=>by cases e⟩
 |some d=>
  rw[aj]at h;obtain⟨dm,aa,ab⟩:=bk.pk (some (av.t [])) ap d;simp only[aa]at h;refine⟨dm,h,(λe=>by cases e),λd' fW t w hw=>?_⟩;cases fW;rcases ab t w hw with⟨aN,bc⟩ | ⟨aN,bc⟩;·exact .inl ⟨aN,(pt bc).symm⟩
  ·exact .inr ⟨aN,bc⟩
def qP.step{v:av}(h:qP D F ap)(bo:D.le bE)(aK:vt dst v bE F df)(aa:dst=none->dm=ap)(ab:∀ d,dst=some d->∀ t w,dm.get t=some w->(t=d/\w=v)\/(t≠d/\ap.get t=some w)):qP bE df dm:=λt u au=>by
 cases aj:dst with
 |none=>rw[aa aj]at au;exact aK.2 bE t u (by rw[aj];simp) ((h t u au).mono bo)
 |some d=>
  rcases ab d aj t u au with⟨rfl,rfl⟩ | ⟨bH,az⟩;·exact aK.1 _ aj
  ·exact aK.2 bE t u (by rw[aj];intro e;cases e;exact bH rfl) ((h t u az).mono bo)
def Sg(aQ:cX X.P X.E)(kA:∀ d,d<X.n->X.gP.contains d=true){call:av->List av->bx->Option (av×bx)}(m9:IC (eg X G pr) call)(ops:Array Oper)(Q:Exit->Act->World->Prop)(kC:∀ a w,lS X G pr D0 n0 dm m' a w->Q .normal a w):∀ (l:List Oper) (k:Nat),(∀ j,l[j]?=ops[k+j]?)->(∀ o∈l,∀ d,o.dst=some d->d<X.n)->∀ {ap m a w},E4 (eg X G pr) call ops.toList l ap m=some (dm,m') -> lS X G pr D0 n0 ap m a w->wpOpsIn (hb X) 0 X.P ops Q (List.range' k l.length) a w
 |[],k,_,_,ap,m,a,w,h,aw=>by have bu:some (ap,m)=some (dm,m'):=h;cases bu;exact kC _ _ aw
 |o::bq,k,ay,aj,ap,m,a,w,h,aw=>by
  have ax:ops[k]?=some o:=by simpa using(ay 0).symm
  have ra:∀ j,bq[j]?=ops[k+1+j]?:=λj=>by have:=ay (j+1);simpa[uz,J2 1 j]using this
  have fW:∀ o∈bq,∀ d,o.dst=some d->d<X.n:=λo aG=>aj o (by simp[aG]);have zl:=aj o am;have bu:bw (vn ops.toList o ap) none (λw=>cc w (Ap (eg X G pr) call o ap m λap m=>E4 (eg X G pr) call ops.toList bq ap m) (CM o ap λap=>E4 (eg X G pr) call ops.toList bq ap m))=some (dm,m'):=h;obtain⟨b,ah,bu⟩:=cB bu;obtain⟨D,F,C,I,M,⟨β,aZ⟩,bC,hm,ae,aE⟩:=aw;have hw:=am0 ah aZ.ap bC;simp only[ey,Oe,wpOpsIn,ax];rw[hw];cases b with
  |true=>have ab:Ap (eg X G pr) call o ap m (λap m=>E4 (eg X G pr) call ops.toList bq ap m)=some (dm,m'):=bu;obtain⟨v,c4,fM,⟨ID,IE⟩,-,al,bb,bh⟩:=aaU aQ kA zl m9 ab;simp only[ta];refine s' (λbT w'=>?_) (DS aQ zl ⟨β,aZ⟩ (IE D F C I M (λdf C' I' M'=>∃ bE,D.ext bE m.n/\qP bE df fM/\dq (eg X G pr) bE c4 I' M') (bC.op _) hm λbE df C' I' M' aN bc cy=>⟨bE,aN,bC.step (hm.le aN) bc bb bh,cy⟩));rintro⟨df,C',I',M',g4,bE,aN,bc,cy⟩;exact Sg aQ kA m9 ops Q kC bq (k+1) ra fW al ⟨bE,df,C',I',M',g4,bc,cy,bU.aaV ae aN aE,iO aE ID⟩
  |false=>have ab:CM o ap (λap=>E4 (eg X G pr) call ops.toList bq ap m)=some (dm,m'):=bu;obtain⟨fM,al,bb,bh⟩:=aaW ab;simp only[lX,mV];refine⟨λ_ _=>trivial,Sg aQ kA m9 ops Q kC bq (k+1) ra fW al ⟨D,put o.dst (.val undef) F,C,I,M,⟨β,aZ.put (x:=.val undef) zl rfl⟩,bC.step (bU.le_refl D) (.put F (.val .undef)) bb bh,hm,ae,aE⟩⟩
end
def am1(aV:∀ j e,m0 ops j e->e<j)(J:(Nat->Prop)->Act->World->Prop)(step:∀ (L:Nat->Prop) a w q o,J L a w->BC ops L->(∀ i,L i->i<ops.length)->ops[q]?=some o->¬ L q->(∀ e,m0 ops q e->L e) -> (Region.wanted o (yielded ops.toArray a.tmps)=true->o.wpIn (hb X) 0 X.P a w (J λj=>L j\/j=q) Q)/\(Region.wanted o (yielded ops.toArray a.tmps)=false->J (λj=>L j\/j=q) (a.put o.dst undef) w))
  (fin:∀ a w,J (λi=>i<ops.length) a w->Q .normal a w):∀ (fK:Nat) (dO:Array Bool) (a:Act) (w:World),dO.size=ops.length->todo ops dO<=fK->BC ops (λi=>dO.getD i false=true) ->
   J (λi=>dO.getD i false=true) a w->wpAnyIn (hb X) 0 X.P .any ops.toArray Q fK dO a w:=by
 have fR:∀ (dO:Array Bool) (i:Nat),dO.getD i false=true->i<dO.size:=λdO i h=>by refine Gk λaE=>?_;simp[Array.getD,aE]at h
 have full:∀ (dO:Array Bool) a w,dO.size=ops.length->Region.ready .any ops.toArray dO=[]->J (λi=>dO.getD i false=true) a w->Q .normal a w:=λdO a w dy nJ a6=>by
  have all:∀ i,i<ops.length->dO.getD i false=true:=λi=>by
   induction i using Nat.strongRecOn with
   |ind i aX=>
    intro hi;refine Gk λaE=>?_;have aG:ops[i]?=some ops[i]:=du hi;have:i∈Region.ready .any ops.toArray dO:=(mem_ready dy).2 ⟨_,aG,aE,λe he=>by
     have aa:=aV i e he;exact aX e aa Z⟩
    rw[nJ]at this;cases this
  have e:(λi=>dO.getD i false=true)=λi=>i<ops.length:=by funext i;simp only[eq_iff_iff];exact⟨λh=>by have:=fR dO i h;omega,all i⟩
  rw[e]at a6;exact fin a w a6
 intro fK
 induction fK with
 |zero=>
  intro dO a w dy aC dN a6;have nJ:Region.ready .any ops.toArray dO=[]:=by
   cases ag:Region.ready .any ops.toArray dO with
   |nil=>rfl| cons i l=>obtain⟨o,aG,aE,_⟩:=(mem_ready dy).1 (by rw[ag];simp:i∈Region.ready .any ops.toArray dO);have:=Kt (jd.1 aG).1 dy aE;omega
  exact⟨nJ,full dO a w dy nJ a6⟩
 |succ fK aX=>
  intro dO a w dy aC dN a6;refine⟨λnJ=>full dO a w dy nJ a6,λq aM=>?_⟩;obtain⟨o,aG,aE,aj⟩:=(mem_ready dy).1 aM;have cF:=(jd.1 aG).1;have gy:=VX (dO:=dO) (i:=q) Z;have next:∀ bT w',J (λj=>dO.getD j false=true\/j=q) bT w'->wpAnyIn (hb X) 0 X.P .any ops.toArray Q fK (dO.setIfInBounds q true) bT w':=λbT w' h=>by
   refine aX _ bT w' (by simpa using dy) ?_ ?_ (by rw[gy];exact h);·have:=Kt cF dy aE;omega
   ·rw[gy];rintro j e (ai | rfl) he
    ·exact .inl (dN j e ai he)
    ·exact .inl (aj e he)
  obtain⟨s1,s2⟩:=step _ a w q o a6 dN (λi hi=>by have:=fR dO i hi;omega) aG aE aj;have zw:ops.toArray[q]?=some o:=by simpa using aG
  unfold wpOpIn;simp only[zw];cases hw:Region.wanted o (yielded ops.toArray a.tmps)with
  |true=>
   simp only[ta];exact s' next (s1 hw)
  |false=>simp only[lX,mV];exact⟨λ_ _=>trivial,next _ _ (s2 hw)⟩
def aaX{S:List bx}{lo hi:Nat}{p:bx->Bool}{m:bx}(h:E7 S lo hi p=true)(aa:lo<=j)(ab:j<=hi)(ai:S[j]?=some m):p m=true:=by unfold E7 at h;refine fV.1 h m ?_;refine sg (i:=j-lo) ?_;rw[lv,bY Z,nC,show lo+(j-lo)=j by omega];exact ai
def filter_le{p:α->Bool}:∀ {l:List α},(∀ q e,l[q]?=some e->p e=true->q<j)->(l.filter p).length<=j:=by
 intro l h;have aN:l.filter p=(l.take j).filter p:=by
  conv=>lhs;rw[<-pO j l]
  rw[Ex];have:(l.drop j).filter p=[]:=by rw[List.filter_eq_nil_iff];intro a a8 aK;obtain⟨q,aM⟩:=Lz a8;rw[nC]at aM;have:=h _ _ aM aK;omega
  rw[this,dE]
 rw[aN];refine iO (Kx _ _) ?_;simp;omega
def le_filter{p:α->Bool}{l:List α}(ai:j<=l.length)(h:∀ q e,q<j->l[q]?=some e->p e=true):j<=(l.filter p).length:=by
 have aN:(l.take j).filter p=l.take j:=by
  rw[List.filter_eq_self];intro a a8;obtain⟨q,aM⟩:=Lz a8;rw[lv]at aM;split at aM;·exact h q a ayN aM
  ·cases aM
 have bc:l.filter p=(l.take j).filter p++(l.drop j).filter p:=by
  conv=>lhs;rw[<-pO j l]
  rw[Ex]
 rw[bc,aN,ct,fF];omega
mutual
def aaY{D:bU}:∀ {x y:av} {u:Value},E6 x y=true->aY D x u->aY D y u
 |x,y,u,h,ae=>by
  cases x<;>cases y<;>simp only[E6,lX,cH]at h
  case b.b=>
   have:=eq_of_beq h;subst this;exact ae
  case i.i=>
   obtain⟨aa,ab⟩:=h;have:=IntKind.DN aa;subst this;rw[CO,gN]at ab;subst ab;exact ae
  case s.s=>
   rw[E',gN]at h;subst h;exact ae
  case pn.pn=>exact ae
  case p.p=>
   obtain⟨aa,ab⟩:=h;have:=ei aa;subst this;have:=ei ab;subst this;exact ae
  case g.g=>
   obtain⟨aa,ab⟩:=h;have:=ei aa;subst this;have:=ei ab;subst this;exact ae
  case sn.sn=>exact ae
  case sl.sl=>
   obtain⟨aa,ab,al,aL⟩:=h;have:=ei aa;subst this;have:=ei ab;subst this;have:=ei al;subst this;have:=ei aL;subst this;exact ae
  case sx.sx=>
   obtain⟨aa,ab,al,aL⟩:=h;have:=ei aa;subst this;have:=ei ab;subst this;have:=ei al;subst this;have:=ei aL;subst this;exact ae
  case gs.gs=>
   obtain⟨aa,ab,al,aL⟩:=h;have:=ei aa;subst this;have:=ei ab;subst this;have:=ei al;subst this;have:=ei aL;subst this;exact ae
  case mn.mn=>exact ae
  case m.m=>have:=ei h;subst this;exact ae
  case f.f=>
   obtain⟨aa,ab,al⟩:=h;have:=ei aa;subst this;simp only[aY]at ae |-;obtain⟨vs,ws,bb,bh,b2⟩:=ae;exact⟨vs,ws,Fp ab bb,Fp al bh,b2⟩
  case y.y=>have:=ei h;subst this;exact ae
  case fn.fn=>exact ae
  case ni.ni=>exact ae
  case t.t=>
   simp only[aY]at ae |-;obtain⟨vs,bb,bh⟩:=ae;exact⟨vs,Fp h bb,bh⟩
  case a.a=>
   simp only[aY]at ae |-;obtain⟨vs,bb,bh⟩:=ae;exact⟨vs,Fp h bb,bh⟩
def Fp{D:bU}:∀ {x y:List av} {us:List Value},w7 x y=true->bQ D x us->bQ D y us
 |[],[],us,h,ae=>ae| [],_::_,us,h,ae=>by simp[w7]at h
 |_::_,[],us,h,ae=>by simp[w7]at h
 |x::l,y::m,us,h,ae=>by simp only[w7,cH]at h;obtain⟨u,us,bb,bh,rfl⟩:=ae.kP;exact .cons (aaY h.1 bb) (Fp h.2 bh)
end
def IF(dst:Option Nat)(ap:bk av)(v:av)(dm:bk av):Prop:=(dst=none->dm=ap)/\∀ d,dst=some d->∀ t w,dm.get t=some w->(t=d/\w=v)\/(t≠d/\ap.get t=some w)
def Mf(m m':bx)(l:List av)(T:Nat):Prop:=m'.n=m.n+1/\(∀ id e,m'.t.get id=some e->id=m.n\/m.t.get id=some e)
def yI(m m':bx):Prop:=m.n<=m'.n/\∀ id e,id<m.n->m'.t.get id=some e->m.t.get id=some e
def yI.refl(m:bx):yI m m:=⟨cf _,λ_ _ _ h=>h⟩
def yI.trans{a b c:bx}(h:yI a b)(k:yI b c):yI a c:=⟨iO h.1 k.1,λid e hi he=>h.2 id e hi (k.2 id e (J0 hi h.1) he)⟩
def Mf.grow{m m':bx}{l:List av}{T:Nat}(h:Mf m m' l T):yI m m':=⟨by rw[h.1];omega,λid e hi he=>by
 rcases h.2 id e he with aa | aa
 ·omega
 ·exact aa⟩
def am2{m:bx}{l:List av}{T:Nat}{K:Nat->bx->Option R}{r:R}(h:vm m l T K=some r):∃ m',K m.n m'=some r/\Mf m m' l T:=by unfold vm at h;obtain⟨cs,aa,ab⟩:=bk.yA l (.nil:bk av) 0;rw[aa]at h;obtain⟨be,al,aL⟩:=Iw h;exact⟨_,aL,rfl,λid e hi=>(al id e hi).imp (λq=>q.1) λq=>q.2⟩
def dq.grow{m m':bx}(h:dq Y D m I M)(az:yI m m'):dq Y D m' I M where
 ja id e a aa ab:=h.ja id e a (az.2 id e (h.j2 _ _ ab) aa) ab
 inj id jb e cY a bT aa hz ab hn ah:=h.inj id jb e cY a bT (az.2 id e (h.j2 _ _ ab) aa) (az.2 jb cY (h.j2 _ _ hn) hz) ab hn ah
 j2 id a ab:=J0 (h.j2 _ _ ab) az.1
 qO:=h.qO
inductive mf(X:c3)(G:GT)(pr:me)(ops:List Oper):List (Nat×Nat)->bk av->bx->List (Nat×av)->bk av->bx->List bx->List qN->Prop
 |nil{ap m}:mf X G pr ops [] ap m [] ap m [m] []| q {i o bq ap m v dm vs ha gT S A} (aG:ops[i]?=some o) (af:lO X.E o.op=0) (hw:vn ops o ap=some true) (an:vl X.P X.E G m.t o.op ap=some v) (aK:IF o.dst ap v dm) (t:mf X G pr ops bq dm m vs ha gT S A) : mf X G pr ops ((i,0)::bq) ap m ((i,v)::vs) ha gT S (bif qt o.op then .load i o ap v::A else A)| a {i o d bq ap m m' l T c mk dm vs ha gT S A} (aG:ops[i]?=some o) (af:lO X.E o.op=1) (hw:vn ops o ap=some true) (aj:o.dst=some d) (an:CL X.E o ap=some (l,T,c,mk)) (aE:Mf m m' l T) (aK:IF o.dst ap (mk m.n) dm) (t:mf X G pr ops bq dm m' vs ha gT S A) : mf X G pr ops ((i,1)::bq) ap m ((i,mk m.n)::vs) ha gT S (.made i m.n l T::A)| e {i o bq ap m m' v dm vs ha gT S A} (aG:ops[i]?=some o) (af:lO X.E o.op=2) (hw:vn ops o ap=some true) (ar:Me X G pr o ap m v m') (aK:IF o.dst ap v dm) (t:mf X G pr ops bq dm m' vs ha gT S A) : mf X G pr ops ((i,2)::bq) ap m ((i,v)::vs) ha gT (m::S) A| skip {i k o bq ap m dm vs ha gT S A} (aG:ops[i]?=some o) (af:lO X.E o.op=k) (hw:vn ops o ap=some false) (aK:IF o.dst ap (.t []) dm) (t:mf X G pr ops bq dm m vs ha gT S A) : mf X G pr ops ((i,k)::bq) ap m ((i,.t [])::vs) ha gT (bif Nat.beq k 2 then m::S else S) A
section
variable{X:c3}{G:GT}{pr:me}{ops:List Oper}
def IG(aQ:cX X.P X.E)(kA:∀ d,d<X.n->X.gP.contains d=true)(jE:∀ o∈ops,∀ d,o.dst=some d->d<X.n){call:av->List av->bx->Option (av×bx)}(m9:IC (eg X G pr) call):∀ (row:List (Nat×Nat)) {ap:bk av} {m:bx} {mQ:List bx} {ow:List qN} {ha:bk av} {gT:bx} {ll:List bx} {n5:List qN},pj (eg X G pr) call ops row ap m mQ ow=some (ha,gT,ll,n5)->∃ vs S A,mf X G pr ops row ap m vs ha gT S A/\ll=S.reverse++mQ/\(∀ h∈A,h∈n5)/\∀ h∈ow,h∈n5
 |[],ap,m,mQ,ow,ha,gT,ll,n5,h=>by simp only[pj,kW,Prod.mk.injEq]at h;obtain⟨rfl,rfl,rfl,rfl⟩:=h;exact⟨[],[m],[],.nil,am,am,λ_ h=>h⟩
 |(i,k)::bq,ap,m,mQ,ow,ha,gT,ll,n5,h=>by
  simp only[pj]at h;obtain⟨o,aG,h⟩:=cB h;obtain⟨w,hw,h⟩:=cB h;obtain⟨af,h⟩:=f' h;rw[Au]at aG;have hQ:lO X.E o.op=k:=ei af;have zl:=jE o (sg aG);cases w with
  |false=>
   have ab:CM o ap (λap=>pj (eg X G pr) call ops bq ap m (cc (Nat.beq k 2) (m::mQ) mQ) ow)=some (ha,gT,ll,n5):=h;obtain⟨fM,al,bb,bh⟩:=aaW ab;obtain⟨vs,S,A,au,cQ,dz,vu⟩:=IG aQ kA jE m9 bq al;refine⟨_,_,_,.skip aG hQ hw ⟨bb,bh⟩ au,?_,dz,vu⟩;rw[cQ];cases Nat.beq k 2<;>simp[cc]
  |true=>
   have aa:cc (Nat.beq k 0) (bw (vl X.P X.E G m.t o.op ap) none λv=>p6 o.dst ap v λdm=>pj (eg X G pr) call ops bq dm m mQ (cc (qt o.op) (.load i o ap v::ow) ow)) (cc (Nat.beq k 1) (bw o.dst none λd=>bw (CL X.E o ap) none λr=>vm m r.1 r.2.1 λid m=>p6 (some d) ap (r.2.2.2 id) λap=>pj (eg X G pr) call ops bq ap m mQ (.made i id r.1 r.2.1::ow)) (Ap (eg X G pr) call o ap m λap m'=>pj (eg X G pr) call ops bq ap m' (m::mQ) ow))=some (ha,gT,ll,n5):=h;by_cases HA:k=0
   ·subst HA;have ab:(bw (vl X.P X.E G m.t o.op ap) none λv=>p6 o.dst ap v λdm=>pj (eg X G pr) call ops bq dm m mQ (cc (qt o.op) (.load i o ap v::ow) ow))=some (ha,gT,ll,n5):=aa;obtain⟨v,an,ab⟩:=cB ab;obtain⟨fM,al,bb,bh⟩:=Se ab;obtain⟨vs,S,A,au,cQ,dz,vu⟩:=IG aQ kA jE m9 bq al;refine⟨_,_,_,.q aG hQ hw an ⟨bb,bh⟩ au,cQ,λy aF=>?_,λy aF=>vu y ?_⟩
    ·cases ay:qt o.op with
     |false=>rw[ay]at aF;exact dz y aF
     |true=>
      rw[ay]at aF;rcases ez.1 aF with rfl | aF;·refine vu _ ?_;rw[ay];simp[cc]
      ·exact dz y aF
    ·cases qt o.op with
     |false=>exact aF| true=>exact n2 _ aF
   rw[hT HA]at aa;by_cases eW:k=1
   ·subst eW;have ab:(bw o.dst none λd=>bw (CL X.E o ap) none λr=>vm m r.1 r.2.1 λid m=>p6 (some d) ap (r.2.2.2 id) λap=>pj (eg X G pr) call ops bq ap m mQ (.made i id r.1 r.2.1::ow))=some (ha,gT,ll,n5):=aa;obtain⟨d,aj,ab⟩:=cB ab;obtain⟨⟨l,T,c,mk⟩,a8,ab⟩:=cB ab;obtain⟨m2,al,aE⟩:=am2 ab;have tF:p6 o.dst ap (mk m.n) (λap=>pj (eg X G pr) call ops bq ap m2 mQ (.made i m.n l T::ow))=some (ha,gT,ll,n5):=by rw[aj];exact al
    obtain⟨fM,aL,bb,bh⟩:=Se tF;obtain⟨vs,S,A,au,cQ,dz,vu⟩:=IG aQ kA jE m9 bq aL;refine⟨_,_,_,.a aG hQ hw aj a8 aE ⟨bb,bh⟩ au,cQ,λy aF=>?_,λy aF=>vu y (n2 _ aF)⟩;rcases ez.1 aF with rfl | aF;·exact vu _ am
    ·exact dz y aF
   ·rw[hT eW]at aa;have ab:Ap (eg X G pr) call o ap m (λap m'=>pj (eg X G pr) call ops bq ap m' (m::mQ) ow)=some (ha,gT,ll,n5):=aa;obtain⟨v,c4,fM,IE,-,al,bb,bh⟩:=aaU aQ kA zl m9 ab;obtain⟨vs,S,A,au,cQ,dz,vu⟩:=IG aQ kA jE m9 bq al;have e4:k=2:=by
     have:lO X.E o.op<=2:=by
      unfold lO;split<;>first | omega | (split<;>first | omega | (split<;>omega))
     rw[hQ]at this;omega
    subst e4;exact⟨_,_,_,.e aG hQ hw IE ⟨bb,bh⟩ au,by rw[cQ];simp,dz,vu⟩
def mf.head{ap ha:bk av}{m gT:bx}{vs:List (Nat×av)}{S:List bx}{A:List qN}(h:mf X G pr ops row ap m vs ha gT S A):∃ m2 ll,S=m2::ll/\yI m m2:=by
 induction h with
 |nil=>exact⟨_,_,rfl,.refl _⟩| q _ _ _ _ _ _ aX=>exact aX| a _ _ _ _ _ aE _ _ aX=>obtain⟨m2,ll,aa,ab⟩:=aX;exact⟨m2,ll,aa,aE.grow.trans ab⟩
 |e _ _ _ _ _ _ _=>exact⟨_,_,rfl,.refl _⟩
 | @skip i k o bq ap m dm vs ha gT S A _ _ _ _ _ aX=>
  cases af:Nat.beq k 2 with
  |true=>exact⟨_,_,rfl,.refl _⟩| false=>simpa using aX
def mf.Mg{ap ha:bk av}{m gT:bx}{vs:List (Nat×av)}{S:List bx}{A:List qN}(h:mf X G pr ops row ap m vs ha gT S A):m.n<=gT.n/\∀ i c l T,.made i c l T∈A->m.n<=c/\i∈row.map (·.1):=by
 induction h with
 |nil=>exact⟨cf _,λ_ _ _ _ h=>ci⟩
 | @q i o bq ap m v dm vs ha gT S A _ _ _ _ _ _ aX=>
  refine⟨aX.1,λgZ c l T hm=>?_⟩;have vi:.made gZ c l T∈A:=by
   cases ay:qt o.op with
   |false=>rw[ay]at hm;exact hm
   |true=>
    rw[ay]at hm;rcases ez.1 hm with e | hm;·cases e
    ·exact hm
  exact⟨(aX.2 gZ c l T vi).1,n2 _ (aX.2 gZ c l T vi).2⟩
 |a _ _ _ _ _ aE _ _ aX=>
  refine⟨iO aE.grow.1 aX.1,λgZ c l T hm=>?_⟩;rcases ez.1 hm with e | hm;·cases e;exact⟨cf _,am⟩
  ·exact⟨iO aE.grow.1 (aX.2 gZ c l T hm).1,n2 _ (aX.2 gZ c l T hm).2⟩
 |e _ _ _ ar _ _ aX=>exact⟨iO ar.1 aX.1,λgZ c l T hm=>⟨iO ar.1 (aX.2 gZ c l T hm).1,n2 _ (aX.2 gZ c l T hm).2⟩⟩| skip _ _ _ _ _ aX=>exact⟨aX.1,λgZ c l T hm=>⟨(aX.2 gZ c l T hm).1,n2 _ (aX.2 gZ c l T hm).2⟩⟩
def mf.split:∀ (ba:List (Nat×Nat)) {bq:List (Nat×Nat)} {ap ha:bk av} {m gT:bx} {vs:List (Nat×av)} {S:List bx} {A:List qN},mf X G pr ops (ba++bq) ap m vs ha gT S A -> ∃ xf yJ fM c4 vv yK xg,vs=xf++yJ/\xf.map (·.1)=ba.map (·.1)/\S=vv++yK/\vv.length=(ba.filter λr=>Nat.beq r.2 2).length/\mf X G pr ops bq fM c4 yJ ha gT yK xg/\(∀ h∈xg,h∈A)/\m.n<=c4.n /\ (∀ t w,fM.get t=some w->(∃ i,(i,w)∈xf/\jj ops i=some t)\/((∀ i∈ba.map (·.1),jj ops i≠some t)/\ap.get t=some w)) /\ (∀ i c l T,.made i c l T∈A->.made i c l T∈xg\/c<c4.n)
 |[],bq,ap,ha,m,gT,vs,S,A,h=>⟨[],vs,ap,m,[],S,A,rfl,rfl,rfl,rfl,h,λ_ h=>h,cf _,λt w hw=>.inr ⟨am,hw⟩,λ_ _ _ _ h=>.inl h⟩
 |(i,k)::ba,bq,ap,ha,m,gT,vs,S,A,h=>by
  have fin:∀ {o:Oper} {dm:bk av} {m':bx} {v:av} {tg:List (Nat×av)} {ll S:List bx} {n5 A:List qN},ops[i]?=some o->IF o.dst ap v dm->m.n<=m'.n->mf X G pr ops (ba++bq) dm m' tg ha gT ll n5 -> (S=if Nat.beq k 2 then m::ll else ll)->(∀ h∈n5,h∈A)->(∀ i c l T,.made i c l T∈A->.made i c l T∈n5\/c<m'.n) ->
    ∃ xf yJ fM c4 vv yK xg,(i,v)::tg=xf++yJ/\xf.map (·.1)=((i,k)::ba).map (·.1)/\S=vv++yK/\vv.length=(((i,k)::ba).filter λr=>Nat.beq r.2 2).length/\mf X G pr ops bq fM c4 yJ ha gT yK xg/\(∀ h∈xg,h∈A)/\m.n<=c4.n /\ (∀ t w,fM.get t=some w->(∃ i,(i,w)∈xf/\jj ops i=some t)\/((∀ gZ∈((i,k)::ba).map (·.1),jj ops gZ≠some t)/\ap.get t=some w)) /\
     (∀ i c l T,.made i c l T∈A->.made i c l T∈xg\/c<c4.n):=by
   intro o dm m' v tg ll S n5 A aG aK ID au cQ dz HF;obtain⟨xf,yJ,fM,c4,vv,yK,xg,aN,bc,cy,dX,k3,mg,AH,mh,xh⟩:=mf.split ba au;refine⟨(i,v)::xf,yJ,fM,c4,(if Nat.beq k 2 then m::vv else vv),yK,xg,by rw[aN];rfl,by simp[bc],?_,?_,k3,λh cU=>dz h (mg h cU),iO ID AH,λt w hw=>?_,λi c l T hm=>?_⟩
   ·rw[cQ,cy];split<;>simp
   ·simp only[CY];split<;>simp[dX]
   ·rcases mh t w hw with⟨gZ,aa,ab⟩ | ⟨aa,ab⟩
    ·exact .inl ⟨gZ,n2 _ aa,ab⟩
    ·have st:jj ops i=o.dst:=by simp[jj,aG]
     cases aj:o.dst with
     |none=>
      rw[aK.1 aj]at ab;refine .inr ⟨λgZ ck=>?_,ab⟩;rcases ez.1 ck with e | ck;·rw[show gZ=i from e,st,aj];simp
      ·exact aa gZ ck
     |some d=>
      rcases aK.2 d aj t w ab with⟨rfl,rfl⟩ | ⟨bH,al⟩;·exact .inl ⟨i,am,by rw[st,aj]⟩
      ·refine .inr ⟨λgZ ck=>?_,al⟩;rcases ez.1 ck with e | ck
       ·rw[show gZ=i from e,st,aj];exact λe=>bH (by cases e;rfl)
       ·exact aa gZ ck
   ·rcases HF i c l T hm with aa | aa
    ·exact xh i c l T aa
    ·exact .inr (J0 aa AH)
  cases h with
  |q aG af hw an aK t=>
   rename_i o v dm tg n5;refine fin aG aK (cf _) t am (λh cU=>?_) λi c l T hm=>?_
   ·cases qt o.op with
    |false=>exact cU| true=>exact n2 _ cU
   ·cases ay:qt o.op with
    |false=>rw[ay]at hm;exact .inl hm
    |true=>
     rw[ay]at hm;rcases ez.1 hm with e | hm;·cases e
     ·exact .inl hm
  |a aG af hw aj an aE aK t=>
   refine fin aG aK aE.grow.1 t am (λh cU=>n2 _ cU) λi c l T hm=>?_;rcases ez.1 hm with e | hm;·cases e;exact .inr (by rw[aE.1];omega)
   ·exact .inl hm
  |e aG af hw ar aK t=>exact fin aG aK ar.1 t am (λ_ h=>h) λ_ _ _ _ h=>.inl h
  |skip aG af hw aK t=>exact fin aG aK (cf _) t (by cases Nat.beq k 2<;>rfl) (λ_ h=>h) λ_ _ _ _ h=>.inl h
end
section
variable{ops:List Oper}
def am3{i k:Nat}{o:Oper}(aG:ops[i]?=some o)(h:GK o k=true):∀ e,m0 ops i e->k.testBit e=true:=by rintro e⟨o',ht,wq,wm,ah,rfl⟩;rw[aG]at wq;cases wq;have:=fV.1 h ht (by simpa using wm);rw[ah]at this;simpa using this
def Mh:∀ {row:List (Nat×Nat)} {k:Nat},w6 ops row k=true->∀ (ba:List (Nat×Nat)) (i c:Nat) (post:List (Nat×Nat)),row=ba++(i,c)::post -> (∃ o,ops[i]?=some o)/\k.testBit i=false/\i ∉ ba.map (·.1)/\∀ e,m0 ops i e->k.testBit e=true\/e∈ba.map (·.1)
 |[],k,h,ba,i,c,post,e=>by simp at e
 |(i0,Ch)::row,k,h,ba,i,c,post,e=>by
  simp only[w6,cH,vX]at h;obtain⟨aa,ab⟩:=h;split at ab
  ·rename_i o aG;rw[cH]at ab;cases ba with
   |nil=>simp only[hW,wF,Prod.mk.injEq]at e;obtain⟨⟨rfl,rfl⟩,rfl⟩:=e;exact⟨⟨o,aG⟩,aa,am,λe he=>.inl (am3 aG ab.1 e he)⟩
   |cons p ba=>
    simp only[pP,wF]at e;obtain⟨aN,bc⟩:=e;obtain⟨bb,bh,b2,gg⟩:=Mh ab.2 ba i c post bc;have ah:∀ x,(k ||| 2^i0).testBit x=(k.testBit x||decide (x=i0)):=λx=>by rw[Nat.testBit_or,Nat.testBit_two_pow];congr 1;exact decide_eq_decide.2 eq_comm
    rw[ah,rq]at bh;refine⟨bb,bh.1,?_,λe he=>?_⟩;·rw[<-aN];simp only[ch,ez,not_or];exact⟨by simpa using bh.2,b2⟩
    ·rcases gg e he with h | h
     ·rw[ah,nD]at h;rcases h with h | h
      ·exact .inl h
      ·exact .inr (by rw[<-aN];simp at h;simp[h])
     ·exact .inr (by rw[ch];exact n2 _ h)
  ·cases ab
def Sh:∀ {row:List (Nat×Nat)} {k:Nat},w6 ops row k=true->∀ i,i<ops.length->k.testBit i=true\/i∈row.map (·.1)
 |[],k,h,i,hi=>by
  simp only[w6]at h;have:=ei h;subst this
  left
  rw[Nat.testBit_two_pow_sub_one];simpa using hi
 |(i0,Ch)::row,k,h,i,hi=>by
  simp only[w6,cH,vX]at h;obtain⟨aa,ab⟩:=h;split at ab
  ·rw[cH]at ab;rcases Sh ab.2 i hi with h | h
   ·rw[Nat.testBit_or,Nat.testBit_two_pow,nD]at h;rcases h with h | h
    ·exact .inl h
    ·have:i0=i:=by simpa using h
     exact .inr (by simp[this])
   ·exact .inr (by rw[ch];exact n2 _ h)
  ·cases ab
def am4(h:w6 ops row 0=true):(row.map (·.1)).Nodup:=by
 have key:∀ {row:List (Nat×Nat)} {k:Nat},w6 ops row k=true->(row.map (·.1)).Nodup:=by
  intro row
  induction row with
  |nil=>intro k _;exact DJ
  |cons r row aX=>
   intro k h;obtain⟨i0,Ch⟩:=r;have bu:=h;simp only[w6,cH,vX]at h;obtain⟨aa,ab⟩:=h;split at ab;·rw[cH]at ab;rw[ch,mw];refine⟨λhm=>?_,aX ab.2⟩;obtain⟨⟨x,c⟩,ae,Si⟩:=c6.1 hm;obtain⟨ba,post,e⟩:=vj ae;have Sj:x=i0:=Si;subst Sj;have:=(Mh bu ((x,Ch)::ba) x c post (by rw[e];rfl)).2.2.1;exact this am
   ·cases ab
 exact key h
def aaZ{α β:Type}:∀ {l:List (α×β)},(l.map (·.1)).Nodup->∀ {k:α} {a b:β},(k,a)∈l->(k,b)∈l->a=b
 |[],_,k,a,b,h,_=>by cases h
 |(HA,c)::l,aE,k,a,b,h,bu=>by
  rw[ch,mw]at aE;rcases ez.1 h with e | h
  ·cases e;rcases ez.1 bu with cY | bu
   ·cases cY;rfl
   ·exact(aE.1 (c6.2 ⟨_,bu,rfl⟩)).elim
  ·rcases ez.1 bu with cY | bu
   ·cases cY;exact(aE.1 (c6.2 ⟨_,h,rfl⟩)).elim
   ·exact aaZ aE.2 h bu
end
section
variable{X:c3}{G:GT}{pr:me}{D0:bU}{n0:Nat}{a:Act}{w:World}
def Mi{o:Oper}{ap:bk av}(h:vn ops o ap=some b)(bC:∀ t,fj β (F t) (a.tmps.getD t undef))(H:∀ t∈looks ops o,∀ v,ap.get t=some v->gG D (F t) v) :
  Region.wanted o (yielded ops.toArray a.tmps)=b:=by
 unfold vn at h;split at h
 ·rename_i az;cases h;simp[Region.wanted,az]
 ·rename_i j c az;split at h
  ·cases h
  ·rename_i d ai;have jT:(ops[j]?).bind (·.dst)=some d:=by rw[Au]at ai;simpa using ai
   have am5:(ops.toArray[j]?).bind (·.dst)=some d:=by simpa using jT
   have aF:=Gw am5 a.tmps;have lD:d∈looks ops o:=OJ az jT;split at h
   ·rename_i q aM;cases h;have aw:=H _ lD _ aM;have an:a.tmps.getD d undef=.bool q:=by
     have aa:=bC d;rcases aw with⟨u,e,hu⟩ | ⟨gd,cY,e⟩;·rw[e]at aa;rw[aa,hu.bool]
     ·cases cY;rw[e]at aa;exact aa
    simp[Region.wanted,az,aF,DT an]
   ·rename_i l aM;cases h;have aw:=H _ lD _ aM;obtain⟨u,e,hu⟩:=aw.w8 am;obtain⟨vs,_,rfl⟩:=hu.RK;have aa:=bC d;rw[e]at aa;have v9:yielded ops.toArray a.tmps j=none:=by
     rw[aF];cases jF:a.tmps[d]? with
     |none=>rfl| some v=>simp only[fj,ql,jF,kX]at aa;subst aa;rfl
    simp[Region.wanted,az,v9]
   ·cases h
def am6{o:Oper}{ap:bk av}(H:∀ t∈looks ops o,∀ v,ap.get t=some v->gG D (F t) v):jx D F ap o.op.operands.toList:=λx ae v an=>by
 cases x with
 |tmp t=>exact H t (OK (by simpa using ae)) v an| const c=>exact(show qP D F .nil from λt v h=>ci).op [.const c] (.const c) am v an| global g=>exact(show qP D F .nil from λt v h=>ci).op [.global g] (.global g) am v an| func f=>exact(show qP D F .nil from λt v h=>ci).op [.func f] (.func f) am v an
def am7{m m2:bk fD}{ap:bk av}(h:qt op=false):vl X.P X.E G m op ap=vl X.P X.E G m2 op ap:=by
 cases op with
 |load=>simp[qt]at h| slice t x lo hi mx=>cases mx<;>cases lo<;>cases hi<;>rfl
 |unOp u=>cases u<;>rfl
 |call c=>
  obtain⟨callee,args,ts⟩:=c;cases callee<;>rfl
 |_=>rfl
def Fq(X:c3)(G:GT)(pr:me)(D0:bU)(n0:Nat)(ops:List Oper)(es:List Nat)(ap:bk av)(vs:List (Nat×av))(S:List bx)(A:List qN)(L:Nat->Prop)(a:Act)(w:World):Prop:=
 ∃ D F C I M j rV,Rel X a w F C I M/\(∀ q e,es[q]?=some e->(L e ↔ q<j))/\j<=es.length/\S[j]?=some rV/\dq (eg X G pr) D rV I M/\(∀ i v t,L i->(i,v)∈vs->jj ops i=some t->gG D (F t) v) /\ (∀ t v,(∀ i,L i->jj ops i≠some t)->ap.get t=some v->gG D (F t) v)/\(∀ i c l T,qN.made i c l T∈A->¬ L i->D c=none)/\D0.ext D n0
def Fq.ap(dH:wk ops){L:Nat->Prop}{q:Nat}{o:Oper}(aM:ops[q]?=some o)(ri:¬ L q){vs:List (Nat×av)}(Fs:(vs.map (·.1)).Nodup){v:av}(an:(q,v)∈vs){ap:bk av}(bo:D.le bE)(aK:vt o.dst v bE F df)(dz:∀ i v t,L i->(i,v)∈vs->jj ops i=some t->gG D (F t) v)(Ck:∀ t v,(∀ i,L i->jj ops i≠some t)->ap.get t=some v->gG D (F t) v) :
  (∀ i v t,(L i\/i=q)->(i,v)∈vs->jj ops i=some t->gG bE (df t) v)/\(∀ t v,(∀ i,(L i\/i=q)->jj ops i≠some t)->ap.get t=some v->gG bE (df t) v):=by
 have aa0:jj ops q=o.dst:=by simp[jj,aM]
 constructor
 ·rintro i u t (hi | rfl) hm aj
  ·have bH:o.dst≠some t:=λe=>by obtain⟨gQ,im,st⟩:=GN aj;exact dH.OI i q gQ o t (λcY=>ri (cY ▸ hi)) im aM st e
   exact aK.2 bE t u bH ((dz i u t hi hm aj).mono bo)
  ·rw[aaZ Fs hm an];rw[aa0]at aj;exact aK.1 t aj
 ·intro t u eV az;have bH:o.dst≠some t:=λe=>eV q (.inr rfl) (by rw[aa0,e]);exact aK.2 bE t u bH ((Ck t u (λi hi=>eV i (.inl hi)) az).mono bo)
end
section
variable{X:c3}{G:GT}{pr:me}{D0:bU}{n0:Nat}{a:Act}{w:World}
def Sk{g5:List Nat}:∀ {es:List Nat},LN g5 es=true->∀ (p q:Nat) (x y:Nat),p<q->es[p]?=some x->es[q]?=some y->(g5.getD y 0).testBit x=true
 |[],_,p,q,x,y,_,ae,_=>by simp at ae
 |e::es,h,p,q,x,y,m3,ae,aF=>by
  simp only[LN,cH]at h;cases q with
  |zero=>omega
  |succ q=>
   have ti:es[q]?=some y:=by simpa using aF
   cases p with
   |zero=>simp at ae;subst ae;exact fV.1 h.1 y (sg ti)| succ p=>exact Sk h.2 p q x y Z (by simpa using ae) ti
def am8:e∈yy E ops ↔ e<ops.length/\CN E ops e=2:=by
 unfold yy;rw[n8,kx];constructor
 ·rintro⟨aa,ab⟩;exact⟨aa,ei ab⟩
 ·rintro⟨aa,ab⟩;exact⟨aa,by rw[ab];rfl⟩
def aa1{i:Nat}{o:Oper}(h:ops[i]?=some o):CN E ops i=lO E o.op:=by unfold CN;rw[Au,h];rfl
def gG.same{x:dK}{u v:av}(h:gG D x u)(aw:E6 u v=true):gG D x v:=by
 rcases h with⟨y,rfl,h⟩ | ⟨q,rfl,rfl⟩
 ·exact .val (aaY aw h)
 ·have:v=.b q:=by
   cases v<;>simp only[E6,lX]at aw
   rw[eq_of_beq aw]
  exact .inr ⟨q,this,rfl⟩
def am9(aQ:cX X.P X.E)(kA:∀ d,d<X.n->X.gP.contains d=true)(m9:IC (eg X G pr) call){id:Nat}{IH:Array Oper}(iz:X.P.follows .mixedOrders=true)(aE:wa X.n IH=true)
  {ap ha:bk av} {m gT:bx} (h:Rz (eg X G pr) call IH.toList ap m=some (ha,gT)) (kC:∀ a w,lS X G pr D0 n0 ha gT a w->Q .normal a w) (aw:lS X G pr D0 n0 ap m a w) :
  (Code.region id IH true).wpIn (hb X) 0 X.P Q a w:=by
 refine wpIn_region_any iz ?_;generalize xP:IH.toList=ops at h;have ana:IH=ops.toArray:=by apply lY;simpa using xP
 subst ana;have jE:∀ o∈ops,∀ d,o.dst=some d->d<X.n:=by simpa using J' aE
 unfold Rz at h;obtain⟨Ft,h⟩:=f' h;unfold ZX at Ft;simp only[cH]at Ft;obtain⟨anb,mN,aa2,sQ⟩:=Ft;have dH:wk ops:=VP anb;have aa3:((Ie X.E ops).filter λr=>Nat.beq r.2 2).map (·.1)=yy X.E ops:=by simpa using sQ
 clear sQ;generalize jV:yy X.E ops=es at *;have Sl:∀ e,e∈es ↔ e<ops.length/\CN X.E ops e=2:=λe=>by rw[<-jV];exact am8
 generalize II:Ie X.E ops=row at *;cases lp:pj (eg X G pr) call ops row ap m [] []with
 |none=>rw[lp]at h;cases h| some anc=>
 obtain⟨ane,anf,ll,n5⟩:=anc;rw[lp]at h;have bu:cc (n5.all (Ry (eg X G pr) es (lB ops) ll.reverse)) (some (ane,anf)) none=some (ha,gT):=h;clear h;obtain⟨aa4,bu⟩:=f' bu;cases bu;obtain⟨vs,S,A,Mj,Mk,ang,-⟩:=IG aQ kA jE m9 row lp;rw[dE]at Mk;subst Mk;rw[R4]at aa4;have aa5:∀ y∈A,Ry (eg X G pr) es (lB ops) S y=true:=λy aF=>fV.1 aa4 y (ang y aF);have hv:(row.map (·.1)).Nodup:=am4 mN;obtain⟨aw2,aw3,aw4,aw5,aw6,aw7,aw8,jG,m8,oX,ke,aa6,aw9,anh,ani,axa⟩:=mf.split row (bq:=[]) (by rw[dE];exact Mj);have anj:(row.filter λr=>Nat.beq r.2 2).length=es.length:=by rw[<-aa3,bA]
 cases aa6;rw[dE]at jG;subst jG;have Fs:(vs.map (·.1)).Nodup:=by rw[m8];exact hv
 have ank:=Mj.Mg;have anl:∀ (ba:List (Nat×Nat)) (bq:List (Nat×Nat)),row=ba++bq->BC ops (λi=>i∈ba.map (·.1)):=λba bq nt j e ai he=>by
  obtain⟨⟨x,c⟩,ae,Si⟩:=c6.1 ai;have Sj:x=j:=Si;subst Sj;obtain⟨BU,BV,aN⟩:=vj ae;rcases(Mh mN BU x c (BV++bq) (by rw[nt,aN];simp)).2.2.2 e he with h | h;·simp at h
  ·show e∈ba.map (·.1);rw[aN,cJ];exact cW.2 (.inl h)
 let J:=Fq X G pr D0 n0 ops es ap vs S A
 have key:=am1 (X:=X) (ops:=ops) (Q:=Q) dH.lt J ?step ?fin ops.length (Array.replicate ops.length false) a { w with drawn:=w.drawn+1 } am (by unfold todo;exact iO (Kx _ _) am) ?cl ?start
 case cl=>
  intro j e ai;exfalso;by_cases hi:j<ops.length<;>simp[ql,hi]at ai
 case start=>
  obtain⟨D,F,C,I,M,⟨β,aZ⟩,bC,mM,ae,nL⟩:=aw;obtain⟨m2,yK,anm,az⟩:=Mj.head;have ca:∀ i,¬ (Array.replicate ops.length false).getD i false=true:=λi=>by
   by_cases hi:i<ops.length<;>simp[ql,hi]
  refine⟨D,F,C,I,M,0,m2,⟨β,aZ.world rfl⟩,λq e _=>⟨λh=>(ca e h).elim,λh=>Z⟩,dh _,by rw[anm];rfl,mM.grow az,λi v t hi=>(ca i hi).elim,λt v _ az=>bC t v az,λi c l T rz _=>?_,ae⟩;have:=(ank.2 i c l T rz).1;cases IJ:D c with
  |none=>rfl| some b=>have:=mM.j2 _ _ IJ;omega
 case fin=>
  rintro a w⟨D,F,C,I,M,j,rV,aZ,xi,ai,vw,mM,C2,C3,hp,ae⟩;have fY:j=es.length:=by
   refine Nat.le_antisymm ai ?_;by_cases ax:es.length=0;·omega
   ·have aV:es.length-1<es.length:=by omega
    have aa:=(xi (es.length-1) es[es.length-1] (du aV)).1 ((Sl _).1 (bD aV)).1;omega
  have ann:rV=gT:=by rw[fY,oX,l4 Z,ke,anj]at vw;simpa using vw.symm
  subst ann;refine kC a w ⟨D,F,C,I,M,aZ,λt v az=>?_,mM,ae,?_⟩
  ·rcases ani t v az with⟨i,aa,ab⟩ | ⟨aa,ab⟩
   ·obtain⟨gQ,im,_⟩:=GN ab;exact C2 i v t (jd.1 im).1 aa ab
   ·refine C3 t v (λi hi=>?_) ab;rcases Sh mN i hi with al | al
    ·simp at al
    ·exact aa i al
  ·obtain⟨bE,df,C',I',M',_,_,_,_,nL⟩:=aw;exact iO nL anh
 case step=>
  rintro L a w q o⟨D,F,C,I,M,j,rV,⟨β,aZ⟩,xi,ai,vw,mM,C2,C3,hp,ae⟩dN yL aM ri Ml;have hA:q<ops.length:=(jd.1 aM).1;have uH:=jE o (sg aM);obtain⟨⟨gd,k⟩,ano,Sm⟩:=c6.1 ((Sh mN q hA).resolve_left am);have anp:gd=q:=Sm;subst anp;obtain⟨ba,post,de⟩:=vj ano;obtain⟨-,-,aa7,anq⟩:=Mh mN ba gd k post de;have anr:∀ e,m0 ops gd e->e∈ba.map (·.1):=λe he=>(anq e he).resolve_left am;have Sn:=anl ba ((gd,k)::post) de;have aa8:=Mj;rw[de]at aa8;obtain⟨xf,yJ,fM,c4,vv,yK,xg,aN,bc,cy,dX,k3,mg,AH,mh,xh⟩:=mf.split ba aa8;have axb:=k3.Mg;have H:∀ t∈looks ops o,∀ v,fM.get t=some v->gG D (F t) v:=λt au v an=>by
   rcases mh t v an with⟨i,aa,ab⟩ | ⟨aa,ab⟩
   ·obtain⟨gQ,im,st⟩:=GN ab;have aa9:i∈ba.map (·.1):=by rw[<-bc];exact c6.2 ⟨_,aa,rfl⟩
    have bH:i≠gd:=λe=>aa7 (e ▸ aa9);rcases dH.ord i gd gQ o t bH im aM st au with ah | ah;·exact C2 i v t (ah.mem dN Ml) (by rw[aN];exact cW.2 (.inl aa)) ab
    ·exact(aa7 (ah.mem Sn λe he=>Sn i e aa9 he)).elim
   ·refine C3 t v (λi hi k2=>?_) ab;obtain⟨gQ,im,st⟩:=GN k2;have bH:i≠gd:=λe=>ri (e ▸ hi);rcases dH.ord i gd gQ o t bH im aM st au with ah | ah
    ·exact aa i (ah.mem Sn anr) k2
    ·exact ri (ah.mem dN λe he=>dN i e hi he)
  have sY:jx D F fM o.op.operands.toList:=am6 H;have ft:E5 es (lB ops) gd<=j:=filter_le λp e aK ah=>by exact(xi p e aK).1 ((zr ah).mem dN Ml)
  have gO:j<=lP es (lB ops) gd:=le_filter ai λp e aK So=>by
   cases ah:((lB ops).getD e 0).testBit gd with
   |false=>rfl| true=>have vx:L e:=(xi p e So).2 aK;exact(ri ((zr ah).mem dN λd aj=>dN e d vx aj)).elim
  have aba:lO X.E o.op≠2->∀ p e,es[p]?=some e->((L e\/e=gd) ↔ p<j):=λaf p e aK=>by
   have bH:e≠gd:=λhe=>af (by
    have:=((Sl e).1 (sg aK)).2;rw[he,aa1 aM]at this;exact this)
   exact⟨λcU=>(xi p e aK).1 (cU.resolve_right bH),λcU=>.inl ((xi p e aK).2 cU)⟩
  have Sp:lO X.E o.op=2->es[j]?=some gd/\j+1<=es.length/\∀ p e,es[p]?=some e->((L e\/e=gd) ↔ p<j+1):=λaf=>by
   have Sm:gd∈es:=(Sl gd).2 ⟨hA,by rw[aa1 aM];exact af⟩;obtain⟨AI,gD⟩:=Lz Sm;have axc:=(jd.1 gD).1;have aa:¬ AI<j:=λcU=>ri ((xi AI gd gD).2 cU);have ab:¬ j<AI:=λcU=>by
    have fY:j<es.length:=by omega
    have Sq:=Sk aa2 j AI es[j] gd cU (du fY) gD;have:=(xi j es[j] (du fY)).1 ((zr Sq).mem dN Ml);omega
   have al:AI=j:=by omega
   subst al;refine⟨gD,Z,λp e aK=>⟨λcU=>?_,λcU=>?_⟩⟩
   ·rcases cU with cU | rfl
    ·have:=(xi p e aK).1 cU;omega
    ·refine Gk λaE=>?_;have Sq:=Sk aa2 AI p e e Z gD aK;exact ri ((zr Sq).mem dN Ml)
   ·by_cases ss:p<AI
    ·exact .inl ((xi p e aK).2 ss)
    ·have:p=AI:=by omega
     subst this;rw[gD]at aK;exact .inr (pt aK).symm
  have plain:∀ {v:av} {df:Fr} {C':dB} {bT:Act} {w':World},(gd,v)∈vs->lO X.E o.op≠2->(∀ l T c,qN.made gd c l T ∉ A\/True)->Rel X bT w' df C' I M->vt o.dst v D F df->J (λj=>L j\/j=gd) bT w':=fun {v df C' bT w'} an af _ rm aK=>by obtain⟨f1,f2⟩:=Fq.ap dH aM ri Fs an (bU.le_refl D) aK C2 C3;exact⟨D,df,C',I,M,j,rV,rm,aba af,ai,vw,mM,f1,f2,λi c l T hm eV=>hp i c l T hm λhi=>eV (.inl hi),ae⟩
  have IK:∀ {v:av} {bq:List (Nat×av)},yJ=(gd,v)::bq->(gd,v)∈vs:=fun {v bq} he=>by rw[aN,he];exact cW.2 (.inr am)
  have ans:n0<=c4.n:=by obtain⟨bE,df,C',I',M',_,_,_,_,nL⟩:=aw;exact iO nL AH
  have abb:∀ {k:Nat},k=2->row=ba++(gd,k)::post->lO X.E o.op=2->vv.length=j:=fun {k} e4 ant af=>by
   obtain⟨Sr,fY,_⟩:=Sp af;have anu:es=(ba.filter λr=>Nat.beq r.2 2).map (·.1)++gd::((post.filter λr=>Nat.beq r.2 2).map (·.1)):=by rw[<-aa3,ant,Ex,cJ,CY];subst e4;simp
   have bW:es.Nodup:=by rw[<-jV];exact Fl.sublist zz
   have aa:es[vv.length]?=some gd:=by rw[anu,l4 (by rw[bA,dX];exact cf _),bA,dX,mK];rfl
   have uL:=(jd.1 aa).1;exact(List.getElem?_inj uL bW).1 (by rw[aa,Sr])
  cases k3 with
  | @q i o' bq nq jw v dm tg Ss St mQ ow aG af C4 an aK t=>
   have nu:o'=o:=pt (aG.symm.trans aM);subst nu;have hw:=Mi C4 aZ.ap H;refine⟨λ_=>?_,λaC=>ap'⟩;obtain⟨u,hu,anv⟩:∃ u,vl X.P X.E G rV.t o'.op fM=some u/\∀ x,gG D x u->gG D x v:=by
    cases ay:qt o'.op with
    |false=>exact⟨v,by rw[am7 ay (m2:=c4.t)];exact an,λ_ h=>h⟩
    |true=>
     have jD:qN.load gd o' fM v∈A:=mg _ (by rw[ay];simp);have aa:=aa5 _ jD;have ab:=aaX (show E7 S (E5 es (lB ops) gd) (lP es (lB ops) gd) (Rw (eg X G pr) o' fM v)=true from aa) ft gO vw;unfold Rw at ab;split at ab;·rename_i u hu;exact⟨u,hu,λx ae=>ae.same ab⟩
     ·cases ab
   refine s' (λbT w'=>?_) (DS aQ uH ⟨β,aZ⟩ (aaT (K:=λdf C' I' M'=>I'=I/\M'=M/\vt o'.dst v D F df) aQ uH af hu sY mM λx ae=>⟨rfl,rfl,.put F (anv x ae)⟩));rintro⟨df,C',I',M',g4,rfl,rfl,Sf⟩;exact plain (IK rfl) (by rw[af];decide) (λ_ _ _=>.inr trivial) g4 Sf
  | @a i o' d bq nq jw m' l T c mk dm tg Ss St mQ ow aG af C4 aj an anw aK t=>
   have nu:o'=o:=pt (aG.symm.trans aM);subst nu;have hw:=Mi C4 aZ.ap H;refine⟨λ_=>?_,λaC=>ap'⟩;have jD:qN.made gd c4.n l T∈A:=mg _ am;have aa:=aa5 _ jD;have ab:=aaX (show E7 S (E5 es (lB ops) gd) (lP es (lB ops) gd) (Rx c4.n l T)=true from aa) ft gO vw;unfold Rx at ab;rw[cH]at ab;obtain⟨Fu,ab⟩:=ab;have anx:c4.n<rV.n:=bJ Fu;split at ab
   ·rename_i cs mB fR qp;simp only[cH]at ab;obtain⟨bm,Az,ab⟩:=ab;have Gv:=ei bm;subst Gv;have aaM:=ei Az;subst aaM;split at ab
    ·rename_i e' ra;obtain⟨abc,fg,e1,js⟩:=bk.E9 cs l.length 0 _ _ ra;have wH:abc=e':=pt js;subst wH;have IJ:D c4.n=none:=hp gd c4.n l mB jD ri;refine s' (λbT w'=>?_) (DS aQ uH ⟨β,aZ⟩ (aav (K:=λdf C' I' M'=>∃ b us u,I'=I/\M'=⟨b,.cells us.toArray mB (0,0)⟩::M/\I b=none/\(∀ x∈M,x.num≠b)/\bQ D l us/\(∀ i,X.E mB=some i->us.length=c*i.size)/\c<=maxLen /\ (∀ (bE:bU) id,bE id=some ⟨b,0,c⟩->aY bE (mk id) u)/\Ay o'.dst u F df) aQ kA uH an (by rw[aj];rfl) sY λb us u df C' bb bh b2 gg oc K' Su=>⟨b,us,u,rfl,rfl,bb,bh,b2,gg,oc,K',Su⟩));rintro⟨df,C',I',M',g4,b,us,u,rfl,rfl,bb,bh,b2,gg,oc,K',Su⟩;have bo:D.le (D.set c4.n ⟨b,0,c⟩):=bU.Ax _ IJ;have C5:vt o'.dst (mk c4.n) (D.set c4.n ⟨b,0,c⟩) F df:=Su.v (K' _ _ (bU.p8 _ _ _));obtain⟨f1,f2⟩:=Fq.ap dH aM ri Fs (IK rfl) bo C5 C2 C3;have o4:=Fp ab b2;have gy:∀ id,id≠c4.n->(D.set c4.n ⟨b,0,c⟩) id=D id:=λid kq=>by unfold bU.set;rw[bK kq]
     have IB:∀ id e il,rV.t.get id=some e->D id=some il->il.b≠b:=λid e il hi g2 C0=>by obtain⟨x,CV,AJ⟩:=mM.aq hi g2;exact bh x CV (AJ.trans C0)
     refine⟨D.set c4.n ⟨b,0,c⟩,df,C',I',_,j,rV,g4,aba (by rw[af];decide),ai,vw,?_,f1,f2,?_,λi hi=>?_⟩
     ·refine⟨λid e il hi g2=>?_,λid jb e cY b1 b8 hi ck aa ab C0=>?_,λid il g2=>?_,mM.qO⟩
      ·by_cases kq:id=c4.n
       ·subst kq;rw[bU.p8]at g2;cases g2;rw[qp]at hi;cases hi;refine .cells us.toArray rfl am (by simp[b2.len]) (λi v hi an=>?_) (λi hi=>by simpa using gg i hi) oc;have jS:abc[i]?=some v:=by have:=e1 i hi;rw[dg,an]at this;exact this.symm
        obtain⟨x,CV,AJ⟩:=o4.get jS;exact⟨x,by simpa using CV,AJ.mono bo⟩
       ·rw[gy id kq]at g2;exact(mM.ja id e il hi g2).mono bo λx ae _=>n2 _ ae
      ·by_cases kq:id=c4.n
       ·by_cases IL:jb=c4.n
        ·rw[kq,IL]
        ·rw[gy jb IL]at ab;rw[kq,bU.p8]at aa;cases aa;exact(IB jb cY b8 ck ab C0.symm).elim
       ·rw[gy id kq]at aa;by_cases IL:jb=c4.n
        ·rw[IL,bU.p8]at ab;cases ab;exact(IB id e b1 hi aa C0).elim
        ·rw[gy jb IL]at ab;exact mM.inj id jb e cY b1 b8 hi ck aa ab C0
      ·by_cases kq:id=c4.n
       ·rw[kq];exact anx
       ·rw[gy id kq]at g2;exact mM.j2 _ _ g2
     ·intro i c' e' B3 rz eV;have anz:c'≠c4.n:=λe=>by
       rcases xh i c' e' B3 rz with h | h
       ·rcases ez.1 h with h | h
        ·cases h;exact eV (.inr rfl)
        ·have:=(t.Mg.2 i c' e' B3 h).1;have:=anw.1;omega
       ·omega
      rw[gy c' anz];exact hp i c' e' B3 rz λhi=>eV (.inl hi)
     ·rw[gy i Z];exact ae i hi
    ·cases ab
   ·cases ab
  | @e i o' bq nq jw m' v dm tg Ss St mQ ow aG af C4 IE aK t=>
   have nu:o'=o:=pt (aG.symm.trans aM);subst nu;have hw:=Mi C4 aZ.ap H;refine⟨λ_=>?_,λaC=>ap'⟩;obtain⟨Sr,fY,Sv⟩:=Sp af;have IM:=abb rfl de af;have Sw:rV=c4:=by rw[cy,l4 Z,IM,mK]at vw;simpa using vw.symm
   subst Sw;obtain⟨m2,anA,Sx,Sy⟩:=t.head;refine s' (λbT w'=>?_) (DS aQ uH ⟨β,aZ⟩ (IE.2 D F C I M (λdf C' I' M'=>∃ bE,D.ext bE rV.n/\vt o'.dst v bE F df/\dq (eg X G pr) bE m' I' M') sY mM λbE df C' I' M' bb bh b2=>⟨bE,bb,bh,b2⟩));rintro⟨df,C',I',M',g4,bE,bb,bh,b2⟩;have bo:=mM.le bb;obtain⟨f1,f2⟩:=Fq.ap dH aM ri Fs (IK rfl) bo bh C2 C3;refine⟨bE,df,C',I',M',j+1,m2,g4,Sv,fY,?_,b2.grow Sy,f1,f2,λi c l T rz eV=>?_,bU.aaV ae bb ans⟩;·rw[cy,l4 Z,IM,show j+1-j=0+1 by omega,Gl,Sx];rfl
   ·rcases xh i c l T rz with h | h
    ·have:=(t.Mg.2 i c l T h).1;cases IJ:bE c with
     |none=>rfl| some b=>have:=b2.j2 _ _ IJ;omega
    ·rw[bb c h];exact hp i c l T rz λhi=>eV (.inl hi)
  | @skip i fI o' bq nq jw dm tg Ss St mQ ow aG af C4 aK t=>
   have nu:o'=o:=pt (aG.symm.trans aM);subst nu;have hw:=Mi C4 aZ.ap H;refine⟨λaC=>ap',λ_=>?_⟩;have rm:Rel X (a.put o'.dst undef) w (put o'.dst (.val undef) F) C I M:=⟨β,aZ.put (x:=.val undef) uH rfl⟩;have C5:vt o'.dst (.t []) D F (put o'.dst (.val undef) F):=.put F (.val .undef);by_cases e4:k=2
   ·subst e4;obtain⟨Sr,fY,Sv⟩:=Sp af;have IM:=abb rfl de af;have Sw:rV=c4:=by rw[cy,l4 Z,IM,mK]at vw;simpa using vw.symm
    subst Sw;obtain⟨m2,anA,Sx,Sy⟩:=t.head;obtain⟨f1,f2⟩:=Fq.ap dH aM ri Fs (IK rfl) (bU.le_refl D) C5 C2 C3;refine⟨D,_,C,I,M,j+1,m2,rm,Sv,fY,?_,mM.grow Sy,f1,f2,λi c l T rz eV=>hp i c l T rz λhi=>eV (.inl hi),ae⟩;rw[cy,l4 Z,IM,show j+1-j=0+1 by omega];show(rV::mQ)[0+1]?=some m2;rw[Gl,Sx];rfl
   ·exact plain (IK rfl) (by rw[af];exact e4) (λ_ _ _=>.inr trivial) rm C5
 simpa using key
end
def C6{n:Nat}:∀ {c:Code},ie n c=true->codeOk n c=true
 | .seq x y,h=>by simp only[ie,codeOk,cH]at h |-;exact⟨C6 h.1,C6 h.2⟩
 | .block _ c,h=>by simp only[ie,codeOk]at h |-;exact C6 h
 | .cond _ x y,h=>by simp only[ie,codeOk,cH]at h |-;exact⟨C6 h.1,C6 h.2⟩
 | .loop c,h=>by simp only[ie,codeOk]at h |-;exact C6 h
 | .region _ ops _,h=>h| .scope c,h=>rfl| .rangeFunc ..,h=>rfl| .skip,h | .exit _,h | .label _,h | .goto _,h | .ret,h | .refuse _,h=>rfl
def Sz{n:Nat}:∀ {c:Code} {l:Nat} {r:Code},ie n c=true->findLabel c l=some r->ie n r=true
 | .seq x y,l,r,h,ay=>by
  simp only[ie,cH]at h;simp only[findLabel]at ay;split at ay;·rename_i bq ag;cases ay;simp only[ie,cH];exact⟨Sz h.1 ag,h.2⟩
  ·exact Sz h.2 ay
 | .label e',l,r,h,ay=>by
  simp only[findLabel]at ay;split at ay;·cases ay;rfl
  ·cases ay
 | .skip,_,_,_,ay | .exit _,_,_,_,ay | .goto _,_,_,_,ay | .ret,_,_,_,ay | .refuse _,_,_,_,ay | .block _ _,_,_,_,ay | .cond _ _ _,_,_,_,ay | .loop _,_,_,_,ay | .scope _,_,_,_,ay | .region _ _ _,_,_,_,ay | .rangeFunc _ _ _ _,_,_,_,ay=>by simp[findLabel]at ay
def xj(P:Program):Prop:=∀ (g:Nat) (fn:Func) (c:Code),P.funcs[g]?=some fn->fn.body=some c->ie fn.ntmps c=true/\(fn.name == "runtime.NumGoroutine")=false
def anB(P:Program):Bool:=P.funcs.toList.all λfn=>match fn.body with
 |some c=>ie fn.ntmps c && !(fn.name == "runtime.NumGoroutine")
 |none=>true
def anC(h:anB P=true):xj P:=λg fn c aC ah=>by have aa:=fV.1 h fn (by rw[<-Array.mem_def];exact Array.mem_of_getElem? aC);simp only[ah,cH,vX]at aa;exact aa
def yM(Y:gX):Prop:=∀ g vs m v m',Y.pr g vs m=some (v,m')->∀ (D:bU) (I:aI) (M:List aD) (us:List Value),bQ D vs us->dq Y D m I M->Spec Y.P g us I M λr I' M'=>∃ bE,D.ext bE m.n/\aY bE v r/\dq Y bE m' I' M'
def AK:tk->Exit
 | .normal=>.normal| .exit id=>.exit id| .goto l=>.goto l| .ret=>.ret
def j3(Y:gX)(n B:Nat)(ax:World)(dU:aI)(foot:List Nat)(ro:Option Nat):c3:=⟨Y.P,Y.E,List.range n,n,B,ax,dU,foot,ro⟩
def j3.gP{Y:gX}{n B:Nat}{ax:World}{dU:aI}{foot:List Nat}{ro:Option Nat}:∀ d,d<(j3 Y n B ax dU foot ro).n->(j3 Y n B ax dU foot ro).gP.contains d=true:=λd aj=>by have fW:d<n:=aj;show(List.range n).contains d=true;simpa using fW
def C7(Y:gX)(f:Nat):Prop:=∀ gY n c ap m ex dm m',lQ Y f gY n c ap m=some (ex,dm,m')->ie n c=true->∀ B ax dU foot ro D0 n0 a w,(gY=true->ro=none)->lS (j3 Y n B ax dU foot ro) Y.G Y.pr D0 n0 ap m a w -> c.wpIn (hb (j3 Y n B ax dU foot ro)) 0 Y.P (λe a w=>e=AK ex/\lS (j3 Y n B ax dU foot ro) Y.G Y.pr D0 n0 dm m' a w) a w
def SA{α:Type}:∀ (n k:Nat),(bk.bare n:bk α).get k=none
 |0,k=>rfl
 |n+1,k=>by
  rw[bk.bare,bk.Ih];cases Nat.beq k 0 with
  |true=>rfl
  |false=>
   cases Nat.beq (k%2) 1 with
   |true=>exact SA n _| false=>exact SA n _
section
variable{X:c3}{G:GT}{pr:me}{D:bU}{m:bx}{F:Fr}{ap:bk av}{C:dB}{I:aI}{M:List aD}
def SB(bC:qP D F ap)(hm:dq (eg X G pr) D m I M):∀ {a':List ResultVar} {vs:List av} {K:List Value->Prop},Aq (eg X G pr) ap m.t a'=some vs->(∀ us,bQ D vs us->K us)->pI X F C I M a' K
 |[],vs,K,h,af=>by simp only[Aq]at h;cases h;exact af [] .nil
 | .tmp t::l,vs,K,h,af=>by
  simp only[Aq]at h;split at h;·rename_i v tg aa ab;cases h;obtain⟨u,aN,bb⟩:=(show gG D (dG F (.tmp t)) v from bC t v aa).dL;unfold pI;rw[aN];exact SB bC hm ab λus fP=>af _ (.cons bb fP)
  ·cases h
 | .cell t ty::l,vs,K,h,af=>by
  simp only[Aq]at h;split at h
  ·rename_i x i tg aa ab al;split at h
   ·rename_i v an;cases h;have yC:∀ q,x≠.b q:=λq e=>by subst e;cases an
    obtain⟨u,aN,bb⟩:=gG.w8 (bC t x aa:gG D (dG F (.tmp t)) x) yC;obtain⟨ad,e',Fv,rfl,bj,ay,aK⟩:=w9 hm bb an;have hn:X.E ty=some i:=ab;have eA:dG F (.tmp t)=.val (.pointer (some ad)):=aN;unfold pI;rw[eA,hn];exact⟨Fv,bj,SB bC hm al λus fP=>af _ (.cons (L0 aK ay) fP)⟩
   ·cases h
  ·cases h
end
def abd(aQ:cX Y.P Y.E)(bC:xj Y.P)(nt:yM Y)(ar:C7 Y f){m:bx}{v:av}{fn:Func}{c:Code}(aC:Y.P.funcs[g]?=some fn)(ah:fn.body=some c)(bo:args.length<=fn.ntmps){ap dm:bk av}(xJ:∀ t w,ap.get t=some w->args[t]?=some w){c4:bx}(hex:ex=.normal\/ex=.ret)(h:lQ Y f true fn.ntmps c ap m=some (ex,dm,c4)){vs:List av}(ag:Aq Y dm c4.t fn.results.toList=some vs)
  (an:v=ZY vs) (hu:bQ D args us) (hm:dq Y D m I M):vZ Y.P g us I M λr I' M'=>∃ bE,D.ext bE m.n/\aY bE v r/\dq Y bE c4 I' M':=by
 obtain⟨bl,kY⟩:=bC g fn c aC ah;refine Oz (List.range fn.ntmps) aQ aC ah kY ?_ λB ax a w aZ=>?_
 ·rw[cH];exact⟨C6 bl,EQ (by rw[hu.len];exact bo)⟩
 ·have anD:qP D (xO us) ap:=λt w hw=>by obtain⟨x,aa,ab⟩:=hu.get (xJ t w hw);refine .inl ⟨x,?_,ab⟩;simp only[xO,aa]
  have fB:lS (j3 Y fn.ntmps B ax I (M.map (·.num)) none) Y.G Y.pr D m.n ap m a w:=⟨D,_,_,I,M,aZ,anD,hm,bU.pw,cf _⟩;refine wpIn_mono (ar _ _ _ _ _ _ _ _ h bl B ax I (M.map (·.num)) none D m.n a w (λ_=>rfl) fB) ?_;rintro e bT w'⟨rfl,bE,df,C',I',M',rm,mY,vi,ae,aE⟩;have Ht:∀ CZ,CZ=.normal\/CZ=.ret->wc (j3 Y fn.ntmps B ax I (M.map (·.num)) none) fn.results.toList (λr I' M'=>∃ bE,D.ext bE m.n/\aY bE v r/\dq Y bE c4 I' M') CZ df C' I' M':=λCZ he=>by
   have Fw:=SB (X:=j3 Y fn.ntmps B ax I (M.map (·.num)) none) (G:=Y.G) (pr:=Y.pr) (C:=C') mY vi ag (K:=λvs=>match vs with
    |[nr]=>wb (M.map (·.num)) I' M' ((λr I' M'=>∃ bE,D.ext bE m.n/\aY bE v r/\dq Y bE c4 I' M') nr)
    |vs=>wb (M.map (·.num)) I' M' ((λr I' M'=>∃ bE,D.ext bE m.n/\aY bE v r/\dq Y bE c4 I' M') (.tuple vs.toArray))) λFv fP=>by
     clear ag
     match vs,Fv,fP,an with
     |[],Fv,fP,an=>rw[fP.n4];refine⟨I',M',.refl,bE,ae,?_,vi⟩;rw[an];exact .LZ .nil| [v1],Fv,fP,an=>obtain⟨x,xs,aa,ab,rfl⟩:=fP.kP;rw[ab.n4];refine⟨I',M',.refl,bE,ae,?_,vi⟩;rw[an];exact aa
     |v1::v2::vs,Fv,fP,an=>obtain⟨x,xs,aa,ab,rfl⟩:=fP.kP;obtain⟨y,ys,al,aL,rfl⟩:=ab.kP;refine⟨I',M',.refl,bE,ae,?_,vi⟩;rw[an];exact .LZ fP
   rcases he with rfl | rfl<;>exact Fw
  rcases hex with rfl | rfl;·exact⟨df,C',I',M',rm,Ht _ (.inl rfl)⟩
  ·exact⟨df,C',I',M',rm,Ht _ (.inr rfl)⟩
def Spec.jy{args:List Value}{p q:Value->aI->List aD->Prop}(h:Spec P f args I M p)(af:∀ v I' M',p v I' M'->q v I' M'):Spec P f args I M q:=by
 rcases h with⟨aa,ab⟩ | h
 ·refine .inl ⟨aa,λw hw=>?_⟩;refine(ab w hw).mono ?_;rintro e w'⟨v,I',M',aN,bc,cy,dX⟩;exact⟨v,I',M',aN,af _ _ _ bc,cy,dX⟩
 ·refine .inr λw hw=>?_;obtain⟨v,w',I',M',aN,bc,cy,dX⟩:=h w hw;exact⟨v,w',I',M',aN,af _ _ _ bc,cy,dX⟩
section
variable{Y:gX}{D:bU}{m m':bx}{I:aI}{M:List aD}
def abe(aQ:cX Y.P Y.E)(bC:xj Y.P)(nt:yM Y)(ar:C7 Y f){v:av}(h:LP Y (lQ Y f) g args m=some (v,m'))(hu:bQ D args us)(hm:dq Y D m I M) :
  vZ Y.P g us I M λr I' M'=>∃ bE,D.ext bE m.n/\aY bE v r/\dq Y bE m' I' M':=by
 unfold LP at h;obtain⟨fn,aC,aa⟩:=cB h;obtain⟨c,ah,ab⟩:=cB aa;obtain⟨bo,al⟩:=f' ab;obtain⟨ap,bb,bh⟩:=bk.yA args (bk.bare 12) 0;rw[bb]at al;have xJ:∀ t w,ap.get t=some w->args[t]?=some w:=λt w hw=>by
  rcases bh t w hw with⟨_,h⟩ | ⟨_,h⟩;·simpa using h
  ·rw[SA]at h;cases h
 unfold ZZ at al;split at al
 ·rename_i dm c4 ae;unfold LO at al;obtain⟨vs,ag,aL⟩:=cB al;cases aL;exact abd aQ bC nt ar aC ah (bJ bo) xJ (.inl rfl) ae ag rfl hu hm
 ·rename_i dm c4 ae;unfold LO at al;obtain⟨vs,ag,aL⟩:=cB al;cases aL;exact abd aQ bC nt ar aC ah (bJ bo) xJ (.inr rfl) ae ag rfl hu hm
 ·cases al
def abf(aQ:cX Y.P Y.E)(bC:xj Y.P)(nt:yM Y)(ar:C7 Y f){v:av}(h:yz Y (lQ Y f) g args m=some (v,m'))(hu:bQ D args us)(hm:dq Y D m I M) :
  Spec Y.P g us I M λr I' M'=>∃ bE,D.ext bE m.n/\aY bE v r/\dq Y bE m' I' M':=by
 unfold yz at h;cases aK:Y.pr g args m with
 |none=>rw[aK]at h;exact .inl (abe aQ bC nt ar h hu hm)| some p=>rw[aK]at h;have bu:some p=some (v,m'):=h;cases bu;exact nt g args m v m' aK D I M us hu hm
def cT.kept{a:Act}{W:World}{C:dB}(h:cT X β a w F C I' M')(aa:X.ax=W)(ab:X.B=W.heap.size)(al:X.dU=dU)(aL:X.foot=M0.map (·.num)):Kept dU M0 W I' M' w where
 le:=by rw[<-al];exact h.ik
 uB b o ah:=by
  rcases h.hS b o ah with bB | bB;·exact .inl (by rw[<-al];exact bB)
  ·exact .inr (by rw[<-ab];exact bB)
 vY x ae:=by
  rcases h.own x ae with bB | bB;·rw[aL]at bB;obtain⟨y,aF,e⟩:=c6.1 bB;exact .inl ⟨y,aF,e⟩
  ·exact .inr (by rw[<-ab];exact bB)
 dR b ah aE:=by rw[<-aa];refine h.dR b (by rw[ab];exact ah) λhm=>?_;rw[aL]at hm;obtain⟨y,aF,e⟩:=c6.1 hm;exact aE y aF e
 out:=by rw[<-aa];exact h.out
 sz:=by rw[<-ab];exact h.sz
def abg{R:Type}:∀ {ps:List Nat} {args:List av} {nq:bk av} {K:bk av->Option R} {r:R} {us:List Value} {tmps:Array Value},E8 ps args nq K=some r->bQ D args us->(∀ t∈ps,t<tmps.size)->(∀ t v,nq.get t=some v->aY D v (tmps.getD t undef)) -> ∃ fM,K fM=some r/\us.length=ps.length/\((ps.zip us).foldl (λ(tmps:Array Value) (p:Nat×Value)=>tmps.setIfInBounds p.1 p.2) tmps).size=tmps.size /\ ∀ t v,fM.get t=some v->aY D v (((ps.zip us).foldl (λ(tmps:Array Value) (p:Nat×Value)=>tmps.setIfInBounds p.1 p.2) tmps).getD t undef)
 |[],[],nq,K,r,us,tmps,h,hu,aK,ax=>by have:=hu.n4;subst this;exact⟨nq,h,rfl,rfl,ax⟩
 |[],_::_,nq,K,r,us,tmps,h,hu,aK,ax=>by simp[E8]at h
 |_::_,[],nq,K,r,us,tmps,h,hu,aK,ax=>by simp[E8]at h
 |t0::ps,xk::args,nq,K,r,us,tmps,h,hu,aK,ax=>by
  obtain⟨x,xs,bb,bh,rfl⟩:=hu.kP;simp only[E8]at h;obtain⟨fM,aa,ab⟩:=bk.pk (some xk) nq t0;rw[aa]at h;have aV:=aK t0 am;obtain⟨vy,al,aL,bB,cA⟩:=abg (tmps:=tmps.setIfInBounds t0 x) h bh (λt au=>by simpa using aK t (by simp[au])) λt v au=>by
   rw[ql,Gj];rcases ab t v au with⟨rfl,e⟩ | ⟨bH,az⟩;·have:=(pt e);subst this;simp only[ta,aV];exact bb
   ·rw[bK (sh bH),<-ql];exact ax t v az
  exact⟨vy,al,by simp[aL],ayY,cA⟩
def lR.Mm{a:Loc}{ap:bk av}(h:lR D E M a (.loop b n ap ps fu body)):∃ L,(⟨a.b,.loop L⟩:aD)∈M/\Z8 D b n ap ps fu body L:=by
 cases h with
 |loop L aa ab=>exact⟨L,aa,ab⟩
def lR.anE{a:Loc}{c:Code}{ap:bk av}(h:lR D E M a (.done c n ap ps fu body)):∃ L,(⟨a.b,.loop L⟩:aD)∈M/\L.state=.done/\L.pending=some c:=by
 cases h with
 |done L aa ab al=>exact⟨L,aa,ab,al⟩
def dq.swap(h:dq Y D m I M){be:bk fD}{l:Nat}{dC aN:fD}{o o':Obj}{Mr:List aD}(az:m.t.get l=some dC)(a8:D l=some jv)(bd:M.Perm (⟨jv.b,o⟩::Mr))(au:∀ id e,be.get id=some e->(id=l/\some aN=some e)\/(id≠l/\m.t.get id=some e))
  (he:lR D Y.E (⟨jv.b,o'⟩::Mr) jv aN):dq Y D ⟨be,m.n⟩ I (⟨jv.b,o'⟩::Mr):=by
 refine h.step (λid e hi=>(au id e hi).imp (λq=>⟨q.1,pt q.2⟩) λq=>q) a8 (bU.le_refl D) (λ_ _=>rfl) h.j2 (λ_ _ h=>h) (λid e bT bH hi qR x ae aE=>?_) he λid e bT bH hi qR ah=>bH (h.inj _ _ _ _ _ _ hi az qR a8 ah);rcases ez.1 (bd.mem_iff.1 ae)with rfl | ae
 ·exact(bH (h.inj _ _ _ _ _ _ hi az qR a8 aE.symm)).elim
 ·exact n2 _ ae
end
section
variable{Y:gX}{D:bU}{m m':bx}{I:aI}{M:List aD}
def anF(ar:C7 Y f){l:Nat}{v:av}(h:RD (lQ Y f) l args m=some (v,m'))(ay:D l=some jv)(hu:bQ D args us)(hm:dq Y D m I M) :
  D3 Y.P jv.b us I M λr I' M'=>∃ bE,D.ext bE m.n/\aY bE v r/\dq Y bE m' I' M':=by
 unfold RD at h;split at h
 ·rename_i n nq ps fu body az;obtain⟨L,bd,ca⟩:=(hm.ja _ _ _ az ay).Mm;intro W hG;have G1:W.heap[jv.b]?=some (.loop L):=hG.m _ bd;have fB:L.state=.ready:=ca.a2;have xP:∀ t∈ps,t<L.tmps.size:=λt au=>by rw[ca.sz];exact ca.op t (by rw[ca.ps];exact au)
  obtain⟨fM,aa,c0,dy,abh⟩:=abg (tmps:=L.tmps) h hu xP ca.ap;have Ep:L.params.size=ps.length:=by rw[<-ca.ps];simp
  refine⟨_,_,_,_,run_yield G1 (by rw[Ep];simpa using c0),?_⟩;have hX:(L.params.zip us.toArray).foldl (λtmps (x:Nat×Value)=>match x with | (t,a)=>tmps.setIfInBounds t a) L.tmps=(ps.zip us).foldl (λ(tmps:Array Value) (p:Nat×Value)=>tmps.setIfInBounds p.1 p.2) L.tmps:=by rw[<-Oc,<-ca.ps];simp
  rw[hX];generalize bm:(ps.zip us).foldl (λ(tmps:Array Value) (p:Nat×Value)=>tmps.setIfInBounds p.1 p.2) L.tmps=T at abh dy;rw[ca.fu,ca.body];have mi:ie n fu=true:=by rw[<-ca.fu];exact ca.uT
  have Md:ie n body=true:=by rw[<-ca.body];exact ca.nM
  refine roundIn_of_wpIn (F:=Fence.wide) (n:=0) trivial ?_;let wA:c3:=j3 Y n W.heap.size W I (M.map (·.num)) (some jv.b)
  have GH:cT wA (λ_=>0) { tmps:=T,defers:=[] } W (λt=>.val (T.getD t undef)) (λ_=>none) I M:={
   size:=dy.trans ca.sz
   defers:=⟨[],rfl,DJ,λr ag=>by cases ag⟩
   holds:=hG
   ap:=λt=>rfl
   cx:=λs cs aw=>by cases aw
   inj:=λs cr aa=>by simp at aa
   ik:=λb o ah=>ah
   hS:=λb o ah=>.inl ah
   own:=λx ae=>.inl (c6.2 ⟨x,ae,rfl⟩)
   dR:=λb ah aC=>rfl
   out:=.refl _
   sz:=cf _
   fH:=λx ae=>by
    obtain⟨y,aF,rfl⟩:=c6.1 ae;exact(lW.1 (hG.m y aF)).1 }
  unfold Z1 at aa;split at aa
  ·rename_i vy m2 anG;have gf:lS wA Y.G Y.pr D m.n fM m { tmps:=T,defers:=[] } W:=⟨D,_,_,I,M,⟨_,GH⟩,λt v an=>.val (abh t v an),hm,bU.pw,cf _⟩;refine wpIn_mono (ar _ _ _ _ _ _ _ _ anG mi _ _ _ _ _ D m.n _ _ (λe=>by cases e) gf) ?_;rintro e cO jG⟨rfl,SC,abi,abj,ed,dp,⟨abk,nb⟩,Mn,D8,AJ,kQ⟩;have wH:SC l=some jv:=by rw[AJ l (hm.j2 _ _ ay)];exact ay
   have ab:RB (lQ Y f) l n body (m2.t.get l) vy m2=some (v,m'):=aa;unfold RB at ab;split at ab
   ·rename_i i' anH anI anJ RC l8;obtain⟨jN,abl,ox⟩:=(D8.ja _ _ _ l8 wH).Mm;obtain⟨ba,post,de⟩:=vj abl;have mN:dp.Perm (⟨jv.b,.loop jN⟩::(ba++post)):=by rw[de];exact lL
    have abm:jG.heap[jv.b]?=some (.loop jN):=nb.holds.m _ abl;have anK:=(lW.1 abm).1;refine⟨_,run_beginRound abm ox.a2,?_⟩;obtain⟨t3,al,aL⟩:=bk.pk (some (fD.loop true i' anH anI anJ RC)) m2.t l;rw[al]at ab;have yN:cT wA abk cO (jG.putObj jv.b (.loop { jN with state:=.busy })) abi abj ed (⟨jv.b,.loop { jN with state:=.busy }⟩::(ba++post)):=
     (nb.h6 (.perm mN .refl)).swap am (DY anK) (λb ah=>nB ah) (J7 _ _ _)
    have rW:dq Y SC ⟨t3,m2.n⟩ ed (⟨jv.b,.loop { jN with state:=.busy }⟩::(ba++post)):=D8.swap l8 wH mN aL (.loop { jN with state:=.busy } am ⟨rfl,ox.rj,ox.sz,ox.ap,ox.ps,ox.fu,ox.body,ox.uT,ox.nM,ox.op⟩);unfold Z0 at ab;obtain⟨⟨ex,axd,Mo⟩,HV,bB⟩:=cB ab;have zI:lS wA Y.G Y.pr D m.n vy ⟨t3,m2.n⟩ cO (jG.putObj jv.b (.loop { jN with state:=.busy })):=⟨SC,abi,abj,ed,_,⟨abk,yN⟩,Mn,rW,AJ,kQ⟩;refine wpIn_mono (ar _ _ _ _ _ _ _ _ HV Md _ _ _ _ _ D m.n _ _ (λe=>by cases e) zI) ?_;rintro e hj ke⟨rfl,abn,anL,anM,qz,ru,⟨anN,Mp⟩,axe,abo,abp,abq⟩;have Mq:abn l=some jv:=by rw[abp l (hm.j2 _ _ ay)];exact ay
    have cA:RA l (Mo.t.get l) (D5 ex) Mo=some (v,m'):=bB;unfold RA at cA;split at cA
    ·rename_i abr abt abu abv abw B8;obtain⟨SD,yO,AL⟩:=(abo.ja _ _ _ B8 Mq).Mm;obtain⟨abx,aby,anO⟩:=vj yO;have abz:ru.Perm (⟨jv.b,.loop SD⟩::(abx++aby)):=by rw[anO];exact lL
     have abA:ke.heap[jv.b]?=some (.loop SD):=Mp.holds.m _ yO;have anP:=(lW.1 abA).1;obtain⟨t5,eB,e6⟩:=bk.pk (some (bw (D5 ex) (fD.loop false abr abt abu abv abw) λc=>fD.done c abr abt abu abv abw)) Mo.t l;rw[eB]at cA;cases cA;have fin:∀ jump,D5 ex=jump->∃ nr w',(Instr.endRound jv.b jump).run Y.P ke=.ok nr w'/\∃ r I' M',Ending.returned nr=.returned r/\(∃ bE,D.ext bE m.n/\aY bE (.b (D5 ex).isNone) r/\dq Y bE ⟨t5,Mo.n⟩ I' M')/\eJ I' M' w'/\Kept I M W I' M' w':=by
      rintro jump ai;let Ms:Loop:={ SD with state:=if jump.isNone then .ready else .done,pending:=jump }
      have Mt:cT wA anN hj (ke.putObj jv.b (.loop Ms)) anL anM qz (⟨jv.b,.loop Ms⟩::(abx++aby)):=
       (Mp.h6 (.perm abz .refl)).swap am (DY anP) (λb ah=>nB ah) (J7 _ _ _)
      refine⟨_,_,run_endRound jump abA,_,qz,_,rfl,⟨abn,abp,?_,abo.swap B8 Mq abz e6 ?_⟩,Mt.holds,Mt.kept rfl rfl rfl rfl⟩;·rw[ai];simp[aY]
      ·rw[ai];cases jump with
       |none=>exact .loop Ms am ⟨rfl,rfl,AL.sz,AL.ap,AL.ps,AL.fu,AL.body,AL.uT,AL.nM,AL.op⟩| some c=>exact .done Ms am rfl rfl
     cases ex with
     |normal=>exact fin none rfl| exit id=>exact fin _ rfl| goto t=>exact fin _ rfl| ret=>exact fin _ rfl
    ·cases cA
   ·cases ab
  ·cases aa
 ·cases h
end
section
variable{Y:gX}
def anQ(aQ:cX Y.P Y.E)(bC:xj Y.P)(nt:yM Y)(ar:C7 Y f):IC Y (LQ Y (lQ Y f)):=λamZ l m v m' h D I M u us zk fP hm=>by
 unfold LQ at h;split at h
 ·rename_i g dv cs;simp only[aY]at zk;obtain⟨vs,ws,aa,ab,rfl⟩:=zk;refine .inl ⟨g,_,_,rfl,?_⟩;have:=abf aQ bC nt ar h (aa.append (fP.append ab)) hm;simpa using this
 ·rename_i q;simp only[aY]at zk;obtain⟨jv,aa,rfl⟩:=zk;exact .inr ⟨jv.b,rfl,anF ar h aa fP hm⟩
 ·cases h
def lS.world{ap:bk av}{m:bx}{a:Act}(h:lS X G pr D0 n0 ap m a w):∃ D F β,(∀ t,fj β (F t) (a.tmps.getD t undef))/\qP D F ap:=by obtain⟨D,F,C,I,M,⟨β,aZ⟩,bC,_⟩:=h;exact⟨D,F,β,aZ.ap,bC⟩
def lS.eval{ap:bk av}{m:bx}{a:Act}(h:lS X G pr D0 n0 ap m a w)(ae:dF ap x=some (.b b)):a.eval x=.bool b:=by obtain⟨D,F,β,aa,ab⟩:=h.world;obtain⟨u,aN,bb⟩:=(ab.op [x]).bI (x:=x) am ae;rw[dt aa aN,bb.bool]
def gG.ok{x:dK}{v:av}(h:gG D x v)(ae:fj β x u):aY D v u:=by
 rcases h with⟨y,rfl,h⟩ | ⟨q,rfl,rfl⟩
 ·have:u=y:=ae;subst this;exact h
 ·have:u=.bool q:=ae;subst this;simp[aY]
def anR(aQ:cX Y.P Y.E)(bC:xj Y.P)(nt:yM Y)(ar:C7 Y f){gY:Bool}{ps:Array Tmp}{ap dm:bk av}{m m':bx}(h:RF Y (lQ Y f) gY n (dF ap x) ps.toList fu body ap m=some (ex,dm,m'))(bl:ie n (.rangeFunc x ps fu body)=true){B:Nat}{ax:World}{foot:List Nat}{ro:Option Nat}{a:Act}(iA:gY=true->ro=none)(aw:lS (j3 Y n B ax dU foot ro) Y.G Y.pr D0 n0 ap m a w) :
  (Code.rangeFunc x ps fu body).wpIn (hb (j3 Y n B ax dU foot ro)) 0 Y.P (λe a w=>e=AK ex/\lS (j3 Y n B ax dU foot ro) Y.G Y.pr D0 n0 dm m' a w) a w:=by
 unfold RF at h;split at h
 ·rename_i g cap ae;have OZ:=iA rfl;subst OZ;obtain⟨D,F,C,I,M,⟨β,aZ⟩,SE,hm,gj,nL⟩:=aw;obtain⟨u,aN,bb⟩:=(SE.op [x]).bI (x:=x) am ae;simp only[aY]at bb;obtain⟨vs,ws,aa,ab,rfl⟩:=bb;have je:=aa.n4;subst je;simp only[ie,cH]at bl;obtain⟨t1,al,aL⟩:=Iw h;refine wpIn_rangeFunc λfn _=>?_;let gR:Loop:={ state:=.ready,pending:=none,fn:=fn,tmps:=a.tmps,params:=ps,assign:=fu,body:=body,defers:=w.heap.size }
  let l:=w.heap.size+1
  let m8:World:=(w.alloc (.deferred (some []))).alloc (.loop gR)
  have BL:=aZ.V8.n' (.loop gR);have ay:(w.alloc (.deferred (some []))).heap.size=l:=by simp[l]
  rw[ay]at BL;have anS:∀ q∈M,q.num≠l:=λq aM e=>by have:=aZ.holds.lt aM;omega
  have abB:dq Y (D.set m.n ⟨l,0,0⟩) ⟨t1,m.n+1⟩ I (⟨l,.loop gR⟩::M):=hm.new (a:=⟨l,0,0⟩) al anS (.loop gR am ⟨rfl,rfl,aZ.size,λt v au=>((SE t v au).ok (aZ.ap t)).mono (bU.Ax _ hm.fresh),rfl,rfl,rfl,bl.1,bl.2.1,λt au=>bJ (fV.1 bl.2.2 t au)⟩);unfold Z4 at aL;obtain⟨⟨v,m2⟩,m9,bB⟩:=cB aL;have abC:=bU.Ax (D:=D) ⟨l,0,0⟩ hm.fresh;have ng:bQ (D.set m.n ⟨l,0,0⟩) (.y m.n::cap) (.func (.yield l) #[] #[]::ws):=.cons (by simp only[aY];exact⟨_,bU.p8 _ _ _,rfl⟩) (ab.mono abC);obtain⟨qp,By⟩:=abe aQ bC nt ar m9 ng abB;have anT:=By m8 BL.holds;have bc:=dt aZ.ap aN;refine⟨l,[xH w.heap.size],m8,{ target:=.fn (.func g) ws.toArray,args:=#[.func (.yield l) #[] #[]] },m8,g,(.func (.yield l) #[] #[]::ws).toArray,m8,?_,?_,λ_ _=>trivial,?_,(λh=>ci),?_⟩;·show(Instr.enterLoop fn a.tmps ps fu body none).run Y.P w=_;exact run_enterLoop_outer fn a.tmps ps fu body
  ·show(Deferred.ofValue (a.eval x) (#[Operand.const (.func (.yield l) #[] #[])].map a.eval)).run Y.P m8=_;rw[bc];simp[Deferred.ofValue,Act.eval]
  ·simp only[invoke];rw[show #[Value.func (.yield l) #[] #[]]++ws.toArray=(.func (.yield l) #[] #[]::ws).toArray from by apply lY;simp];exact qp _ _
  ·refine(Ot (X:=j3 Y n B ax dU foot none) anT _).mono ?_;rintro e oX⟨r,lF,oW,rfl,⟨IN,SF,Hw,rW⟩,abD,IP⟩;have sy:=BL.after (Mr:=[]) am abD IP;rw[dE]at sy;have uM:IN m.n=some ⟨l,0,0⟩:=by rw[SF m.n (Bj _)];exact bU.p8 _ _ _
   have Mu:=abB.le SF;have anU:qP IN F ap:=λt v au=>(SE t v au).mono (bU.le_trans abC Mu);have anV:D0.ext IN n0:=λi hi=>by
    have fp:i<m.n+1:=by
     have:i<m.n:=by omega
     omega
    rw[SF i fp];show(if i=m.n then _ else D i)=D0 i;rw[bK Z];exact gj i hi
   have fin:∀ (L:Loop) (t4:bk fD) (j:Option Code),(⟨l,.loop L⟩:aD)∈oW->L.state≠.busy->L.pending=j->(∃ dC,m2.t.get m.n=some dC)->(∀ id e,t4.get id=some e->(id=m.n/\(none:Option fD)=some e)\/(id≠m.n/\m2.t.get id=some e))->n0<=m2.n ->
     ∃ ke,(Instr.endLoop l).run Y.P oX=.ok j ke/\lS (j3 Y n B ax dU foot none) Y.G Y.pr D0 n0 ap ⟨t4,m2.n⟩ { a with defers:=[xH w.heap.size]++a.defers } ke:=by
    rintro L t4 j ca ah aK⟨dC,anW⟩PV abq;have anX:oX.heap[l]?=some (.loop L):=abD.m _ ca;obtain⟨ba,post,de⟩:=vj ca;have mN:oW.Perm (⟨l,.loop L⟩::(ba++post)):=by rw[de];exact lL
    have iD:∀ i fi,t4.get i=some fi->i≠m.n/\m2.t.get i=some fi:=λi fi hi=>by
     rcases PV i fi hi with⟨_,e6⟩ | e6;·cases e6
     ·exact e6
    have Mp:=(sy.h6 (.perm mN .refl)).GZ (o':=.loop { L with state:=.exhausted });refine⟨_,(by rw[<-aK];exact run_endLoop anX ah),IN,F,C,lF,ba++post,⟨β,Mp⟩,anU,⟨λi fi b hi g2=>?_,λi gZ fi AE b il hi ck=>rW.inj i gZ fi AE b il (iD i fi hi).2 (iD gZ AE ck).2,rW.j2,rW.qO⟩,anV,abq⟩;refine(rW.ja i fi b (iD i fi hi).2 g2).mono (bU.le_refl IN) λq aM aE=>?_;rcases ez.1 (mN.mem_iff.1 aM)with rfl | aM;·exact((iD i fi hi).1 (rW.inj _ _ _ _ _ _ (iD i fi hi).2 anW g2 uM aE.symm)).elim
    ·exact aM
   have kQ:∀ {dC:fD},m2.t.get m.n=some dC->n0<=m2.n:=λ_=>by have:=rW.j2 _ _ uM;omega
   have cA:(match m2.t.get m.n with
    |some (.loop false ..)=>m2.t.n3 none m.n λt=>some (tk.normal,ap,(⟨t,m2.n⟩:bx))
    |some (.done c ..)=>bw (RE c) none λex=>m2.t.n3 none m.n λt=>some (ex,ap,⟨t,m2.n⟩)
    |_=>none)=some (ex,dm,m'):=bB
   split at cA;·rename_i XX anY anZ an0 an1 o4;obtain⟨L,ca,abE⟩:=(rW.ja _ _ _ o4 uM).Mm;obtain⟨t4,eB,e6⟩:=bk.pk (none:Option fD) m2.t m.n;rw[eB]at cA;cases cA;obtain⟨ke,dW,oZ⟩:=fin L t4 none ca (by rw[abE.a2];simp) abE.rj ⟨_,o4⟩ e6 (kQ o4);exact⟨none,ke,dW,rfl,oZ⟩
   ·rename_i c XX anY anZ an0 an1 o4;obtain⟨L,ca,fB,SG⟩:=(rW.ja _ _ _ o4 uM).anE;obtain⟨CZ,hex,cA⟩:=cB cA;obtain⟨t4,eB,e6⟩:=bk.pk (none:Option fD) m2.t m.n;rw[eB]at cA;cases cA;obtain⟨ke,dW,oZ⟩:=fin L t4 (some c) ca (by rw[fB];simp) SG ⟨_,o4⟩ e6 (kQ o4);refine⟨some c,ke,dW,?_⟩;unfold RE at hex;split at hex
    ·cases hex;exact wpIn_exit ⟨rfl,oZ⟩
    ·cases hex;exact wpIn_goto ⟨rfl,oZ⟩
    ·cases hex;exact wpIn_ret ⟨rfl,oZ⟩
    ·cases hex
   ·cases cA
 ·cases h
end
section
variable{Y:gX}
def abF{next:Act->World->Prop}{a:Act}(h:Q (AK ex) a w)(bH:ex≠.normal):Exit.then next Q (AK ex) a w:=by cases ex<;>first | exact(bH rfl).elim | exact h
def an2(aQ:cX Y.P Y.E)(bC:xj Y.P)(nt:yM Y)(iz:Y.P.follows .mixedOrders=true):∀ f k,k<=f->C7 Y k:=by
 intro f
 induction f with
 |zero=>
  intro k af gY n c ap m ex dm m' h;have:k=0:=by omega
  subst this;cases h
 |succ f aX=>
  intro k af;by_cases HR:k<=f;·exact aX k HR
  have ki:k=f+1:=by omega
  subst ki;have ar:=aX f (cf _);have m9:=anQ aQ bC nt ar;intro gY n c ap m ex dm m' h bl B ax dU foot ro D0 n0 a w iA aw;have aa:RG Y f (lQ Y f) gY n c ap m=some (ex,dm,m'):=h;have kA:=@j3.gP Y n B ax dU foot ro;unfold RG at aa;cases c with
  |skip=>cases aa;exact wpIn_skip ⟨rfl,aw⟩| label l=>cases aa;exact wpIn_label ⟨rfl,aw⟩| ret=>cases aa;exact wpIn_ret ⟨rfl,aw⟩| exit id=>cases aa;exact wpIn_exit ⟨rfl,aw⟩| goto l=>cases aa;exact wpIn_goto ⟨rfl,aw⟩| refuse s=>cases aa
  |seq x y=>
   simp only[ie,cH]at bl;simp only[If]at aa;split at aa;·rename_i fM c4 ae;refine wpIn_seq (wpIn_mono (ar _ _ _ _ _ _ _ _ ae bl.1 B ax dU foot ro D0 n0 a w iA aw) ?_);rintro e cO jG⟨rfl,gf⟩;exact ar _ _ _ _ _ _ _ _ aa bl.2 B ax dU foot ro D0 n0 cO jG iA gf
   ·rename_i eV;refine wpIn_seq (wpIn_mono (ar _ _ _ _ _ _ _ _ aa bl.1 B ax dU foot ro D0 n0 a w iA aw) ?_);rintro e cO jG⟨rfl,gf⟩;exact abF ⟨rfl,gf⟩ λe=>eV dm m' (by rw[aa,e])
  |block id c=>
   simp only[ie]at bl;simp only[Z2]at aa;split at aa
   ·rename_i j fM c4 ae;refine wpIn_block (wpIn_mono (ar _ _ _ _ _ _ _ _ ae bl B ax dU foot ro D0 n0 a w iA aw) ?_);rintro e cO jG⟨rfl,gf⟩;simp only[AK,Exit.inBlock];by_cases ai:j=id
    ·subst ai;rw[te]at aa;have ab:some (tk.normal,fM,c4)=some (ex,dm,m'):=aa;cases ab;rw[bY rfl];exact⟨rfl,gf⟩
    ·rw[hT ai]at aa;have ab:some (tk.exit j,fM,c4)=some (ex,dm,m'):=aa;cases ab;rw[bK ai];exact⟨rfl,gf⟩
   ·rename_i eV;refine wpIn_block (wpIn_mono (ar _ _ _ _ _ _ _ _ aa bl B ax dU foot ro D0 n0 a w iA aw) ?_);rintro e cO jG⟨rfl,gf⟩;cases ex with
    |exit j=>exact(eV j dm m' aa).elim| normal=>exact⟨rfl,gf⟩| goto l=>exact⟨rfl,gf⟩| ret=>exact⟨rfl,gf⟩
  |cond x fg e1=>
   simp only[ie,cH]at bl;simp only[Z3]at aa;split at aa
   ·rename_i b ae;refine wpIn_cond (aw.eval ae) ?_;cases b with
    |true=>exact ar _ _ _ _ _ _ _ _ aa bl.1 B ax dU foot ro D0 n0 a w iA aw| false=>exact ar _ _ _ _ _ _ _ _ aa bl.2 B ax dU foot ro D0 n0 a w iA aw
   ·cases aa
  |loop c=>
   simp only[ie]at bl;let J (k:Nat) (a:Act) (w:World):Prop:=k<=f+1/\∃ fM c4,lQ Y k gY n (.loop c) fM c4=some (ex,dm,m')/\lS (j3 Y n B ax dU foot ro) Y.G Y.pr D0 n0 fM c4 a w
   refine Ka J (m:=f+1) ⟨cf _,ap,m,h,aw⟩ ?_;rintro k cO jG⟨af,fM,c4,ab,gf⟩;cases k with
   |zero=>cases ab
   |succ k=>
    have IQ:=aX k Z;have al:If (lQ Y k gY n c fM c4) (lQ Y k gY n (.loop c))=some (ex,dm,m'):=ab;simp only[If]at al;split at al;·rename_i vy m2 ae;refine wpIn_mono (IQ _ _ _ _ _ _ _ _ ae bl B ax dU foot ro D0 n0 cO jG iA gf) ?_;rintro e en m8⟨rfl,qo⟩;exact⟨k,Bj k,Z,vy,m2,al,qo⟩
    ·rename_i eV;refine wpIn_mono (IQ _ _ _ _ _ _ _ _ al bl B ax dU foot ro D0 n0 cO jG iA gf) ?_;rintro e en m8⟨rfl,qo⟩;exact abF ⟨rfl,qo⟩ λe=>eV dm m' (by rw[al,e])
  |region id ops an3=>
   cases an3 with
   |false=>simp only[LR]at aa;obtain⟨⟨fM,c4⟩,ae,ab⟩:=cB aa;cases ab;refine wpIn_region ?_;have:=Sg (X:=j3 Y n B ax dU foot ro) (G:=Y.G) (pr:=Y.pr) (D0:=D0) (n0:=n0) aQ kA m9 ops (λe a w=>e=AK .normal/\lS (j3 Y n B ax dU foot ro) Y.G Y.pr D0 n0 fM c4 a w) (λa w h=>⟨rfl,h⟩) ops.toList 0 am (J' bl) ae aw;have dW:wpOpsIn (hb (j3 Y n B ax dU foot ro)) 0 Y.P ops (λe a w=>e=AK .normal/\lS (j3 Y n B ax dU foot ro) Y.G Y.pr D0 n0 fM c4 a w) (List.range' 0 ops.toList.length) a w:=this;rw[DI];simpa using dW
   |true=>simp only[LR]at aa;obtain⟨⟨fM,c4⟩,ae,ab⟩:=cB aa;cases ab;exact am9 (X:=j3 Y n B ax dU foot ro) (G:=Y.G) (pr:=Y.pr) (D0:=D0) (n0:=n0) aQ kA m9 iz bl ae (λa w h=>⟨rfl,h⟩) aw
  |scope c=>
   simp only[ie]at bl;have step:∀ (k:Nat) (x:Code) (fM:bk av) (c4:bx) (cO:Act) (jG:World),ie n x=true->Ig (lQ Y f) gY n c (k+1) x fM c4=some (ex,dm,m')->lS (j3 Y n B ax dU foot ro) Y.G Y.pr D0 n0 fM c4 cO jG ->
     x.wpIn (hb (j3 Y n B ax dU foot ro)) 0 Y.P (λe bT w'=>match e with
      | .goto l=>∃ bq vy m2,findLabel c l=some bq/\Ig (lQ Y f) gY n c k bq vy m2=some (ex,dm,m')/\lS (j3 Y n B ax dU foot ro) Y.G Y.pr D0 n0 vy m2 bT w'| e=>e=AK ex/\lS (j3 Y n B ax dU foot ro) Y.G Y.pr D0 n0 dm m' bT w') cO jG:=λk x fM c4 cO jG ae ab gf=>by
    have al:(match lQ Y f gY n x fM c4 with
     |some (.goto l,ap,m)=>bw (findLabel c l) none λbq=>Ig (lQ Y f) gY n c k bq ap m
     |r=>r)=some (ex,dm,m'):=ab
    split at al;·rename_i l vy m2 he;obtain⟨bq,rn,aL⟩:=cB al;refine wpIn_mono (ar _ _ _ _ _ _ _ _ he ae B ax dU foot ro D0 n0 cO jG iA gf) ?_;rintro e en m8⟨rfl,qo⟩;exact⟨bq,vy,m2,rn,aL,qo⟩
    ·rename_i eV;refine wpIn_mono (ar _ _ _ _ _ _ _ _ al ae B ax dU foot ro D0 n0 cO jG iA gf) ?_;rintro e en m8⟨rfl,qo⟩;cases ex with
     |goto l=>exact(eV l dm m' al).elim| exit j=>exact⟨rfl,qo⟩| normal=>exact⟨rfl,qo⟩| ret=>exact⟨rfl,qo⟩
   let J (l k:Nat) (a:Act) (w:World):Prop:=∃ bq fM c4,findLabel c l=some bq/\Ig (lQ Y f) gY n c k bq fM c4=some (ex,dm,m')/\lS (j3 Y n B ax dU foot ro) Y.G Y.pr D0 n0 fM c4 a w
   cases f with
   |zero=>cases aa
   |succ sC=>
    refine V0 J (wpIn_mono (step sC c ap m a w bl aa aw) ?_) ?_
    ·intro e cO jG he;cases e with
     |goto l=>exact⟨sC,he⟩| _=>exact he
    ·rintro l k cO jG⟨bq,fM,c4,rn,ab,gf⟩;cases k with
     |zero=>cases ab
     |succ k=>
      refine⟨bq,rn,wpIn_mono (step k bq fM c4 cO jG (Sz bl rn) ab gf) ?_⟩;intro e en m8 he;cases e with
      |goto e'=>exact⟨k,Bj k,he⟩| _=>exact he
  |rangeFunc x ps fu body=>exact anR aQ bC nt ar aa bl iA aw
def reckon(aQ:cX Y.P Y.E)(bC:xj Y.P)(nt:yM Y)(iz:Y.P.follows .mixedOrders=true){m m':bx}{v:av}(h:yz Y (lQ Y f) g args m=some (v,m'))(hu:bQ D args us)(hm:dq Y D m I M) : Spec Y.P g us I M λr I' M'=>∃ bE,D.ext bE m.n/\aY bE v r/\dq Y bE m' I' M':=
 abf aQ bC nt (an2 aQ bC nt iz f f (cf _)) h hu hm
end
def abG(h:eJ I M w)(aa:eJ I' M' w')(ab:Kept I [] w I' M' w') :
  eJ I' (M'++M) w'/\Kept I M w I' (M'++M) w'/\∀ x∈M',∀ y∈M,x.num≠y.num:=by
 have aV:∀ x∈M,x.num<w.heap.size:=λx ae=>(lW.1 (h.m x ae)).1;have cM:∀ x∈M',w.heap.size<=x.num:=λx ae=>by
  rcases ab.vY x ae with⟨y,aF,_⟩ | h;·cases aF
  ·exact h
 have bH:∀ x∈M',∀ y∈M,x.num≠y.num:=λx ae y aF e=>by have:=aV y aF;have:=cM x ae;omega
 refine⟨⟨aa.i,λx ae=>?_,λx ae=>?_,?_⟩,⟨ab.le,ab.uB,λx ae=>?_,λb ah _=>ab.dR b ah am,ab.out,ab.sz⟩,bH⟩
 ·rcases cW.1 ae with ae | ae
  ·exact aa.m x ae
  ·rw[ab.dR x.num (aV x ae) am];exact h.m x ae
 ·rcases cW.1 ae with ae | ae
  ·exact aa.d x ae
  ·cases he:I' x.num with
   |none=>rfl
   |some o=>
    rcases ab.uB _ _ he with al | al;·rw[h.d x ae]at al;cases al
    ·have:=aV x ae;omega
 ·rw[cJ,uw];refine⟨aa.bO,h.bO,λa a8 b ah e=>?_⟩;obtain⟨x,ae,rfl⟩:=c6.1 a8;obtain⟨y,aF,rfl⟩:=c6.1 ah;exact bH x ae y aF e
 ·rcases cW.1 ae with ae | ae
  ·exact .inr (cM x ae)
  ·exact .inl ⟨x,ae,rfl⟩
def Spec.frame{args:List Value}{Q:Value->aI->List aD->Prop}(h:Spec P f args I [] Q):Spec P f args I M λr I' k1=>∃ M',k1=M'++M/\(∀ x∈M',∀ y∈M,x.num≠y.num)/\(∀ b o,I b=some o->I' b=some o)/\Q r I' M':=by
 have ax:∀ {w:World},eJ I M w->eJ I [] w:=λhw=>⟨hw.i,am,am,am⟩;rcases h with⟨aa,ab⟩ | h
 ·refine .inl ⟨aa,λw hw=>?_⟩;refine(ab w (ax hw)).mono ?_;rintro e w'⟨v,I',M',aN,bc,cy,dX⟩;obtain⟨bb,bh,b2⟩:=abG hw cy dX;exact⟨v,I',M'++M,aN,⟨M',rfl,b2,dX.le,bc⟩,bb,bh⟩
 ·refine .inr λw hw=>?_;obtain⟨v,w',I',M',aN,bc,cy,dX⟩:=h w (ax hw);obtain⟨bb,bh,b2⟩:=abG hw cy dX;exact⟨v,w',I',M'++M,aN,⟨M',rfl,b2,dX.le,bc⟩,bb,bh⟩
mutual
def j4(k:Nat):av->av
 | .p id off=>.p (Nat.add id k) off| .sl id off n c=>.sl (Nat.add id k) off n c| .sx id off e n=>.sx (Nat.add id k) off e n| .m id=>.m (Nat.add id k)| .y id=>.y (Nat.add id k)| .f g l r=>.f g (qT k l) (qT k r)| .H2 t v=>.H2 t (j4 k v)| .t l=>.t (qT k l)| .a l=>.a (qT k l)| .b x=>.b x| .i a n=>.i a n| .s l=>.s l| .pn=>.pn| .g n off=>.g n off| .sn=>.sn| .gs n off a c=>.gs n off a c| .so=>.so| .mn=>.mn| .fn=>.fn| .ni=>.ni
def qT(k:Nat):List av->List av
 |[]=>[]| v::l=>j4 k v::qT k l
end
section
mutual
def Fx{D0 D:bU}{k:Nat}(dH:∀ id a,D0 id=some a->D (Nat.add id k)=some a):∀ (v:av) {u:Value},aY D0 v u->aY D (j4 k v) u
 | .p id off,u,h=>by simp only[aY,j4]at h |-;obtain⟨a,a8,h⟩:=h;exact⟨a,dH _ _ a8,h⟩
 | .sl id off n c,u,h=>by simp only[aY,j4]at h |-;obtain⟨a,a8,h⟩:=h;exact⟨a,dH _ _ a8,h⟩
 | .sx id off e n,u,h=>by simp only[aY,j4]at h |-;obtain⟨a,a8,h⟩:=h;exact⟨a,dH _ _ a8,h⟩
 | .m id,u,h=>by simp only[aY,j4]at h |-;obtain⟨a,a8,h⟩:=h;exact⟨a,dH _ _ a8,h⟩
 | .y id,u,h=>by simp only[aY,j4]at h |-;obtain⟨a,a8,h⟩:=h;exact⟨a,dH _ _ a8,h⟩
 | .f g l r,u,h=>by simp only[aY,j4]at h |-;obtain⟨vs,ws,aa,ab,h⟩:=h;exact⟨vs,ws,IR dH l aa,IR dH r ab,h⟩
 | .H2 t v,u,h=>by simp only[aY,j4]at h |-;obtain⟨x,aa,h⟩:=h;exact⟨x,Fx dH v aa,h⟩
 | .t l,u,h=>by simp only[aY,j4]at h |-;obtain⟨x,aa,h⟩:=h;exact⟨x,IR dH l aa,h⟩
 | .a l,u,h=>by simp only[aY,j4]at h |-;obtain⟨x,aa,h⟩:=h;exact⟨x,IR dH l aa,h⟩
 | .b x,u,h=>by simpa only[aY,j4]using h
 | .i a n,u,h=>by simpa only[aY,j4]using h
 | .s l,u,h=>by simpa only[aY,j4]using h
 | .pn,u,h=>by simpa only[aY,j4]using h
 | .g n off,u,h=>by simpa only[aY,j4]using h
 | .sn,u,h=>by simpa only[aY,j4]using h
 | .gs n off a c,u,h=>by simpa only[aY,j4]using h
 | .so,u,h=>by simpa only[aY,j4]using h
 | .mn,u,h=>by simpa only[aY,j4]using h
 | .fn,u,h=>by simpa only[aY,j4]using h
 | .ni,u,h=>by simpa only[aY,j4]using h
def IR{D0 D:bU}{k:Nat}(dH:∀ id a,D0 id=some a->D (Nat.add id k)=some a):∀ (l:List av) {us:List Value},bQ D0 l us->bQ D (qT k l) us
 |[],us,h=>by simpa only[bQ,qT]using h
 |v::l,us,h=>by simp only[bQ,qT]at h |-;obtain⟨x,xs,aa,ab,h⟩:=h;exact⟨x,xs,Fx dH v aa,IR dH l ab,h⟩
end
end
inductive vz where
 |cells(l:List av)(T:Nat)| map (es:List (av×av))
noncomputable def IS:fD->Option vz
 | .cells cs T fR=>cs.EV 0 fR λl=>some (.cells l T)
 | .map es=>some (.map es)| _=>none
noncomputable def readAll(t:bk fD):Nat->Nat->Option (List vz)
 |_,0=>some []| id,n+1=>bw (t.get id) none λe=>bw (IS e) none λs=>bw (readAll t (Nat.add id 1) n) none λl=>some (s::l)
def SH(k:Nat):List (av×av)->List (av×av)
 |[]=>[]| p::l=>(j4 k p.1,j4 k p.2)::SH k l
noncomputable def vz.ja(k:Nat):vz->fD
 | .cells l T=>bk.yt (qT k l) .nil 0 λcs=>.cells cs T l.length
 | .map es=>.map (SH k es)
noncomputable def Mv{R:Type}(k:Nat):List vz->Nat->bk fD->(bk fD->R)->R
 |[],_,t,K=>K t| s::l,id,t,K=>t.n3 (some (s.ja k)) id λt=>Mv k l (Nat.add id 1) t K
noncomputable def SI(v:av)(L:List vz)(m:bx):Option (av×bx):=rR m.n λn=>rR (Nat.add n L.length) λi'=>Mv n L n m.t λt=>some (j4 n v,⟨t,i'⟩)
def abH{t:bk fD}:∀ {n id:Nat} {L:List vz},readAll t id n=some L->L.length=n/\∀ j s,L[j]?=some s->∃ e,t.get (id+j)=some e/\IS e=some s
 |0,id,L,h=>by cases h;exact⟨rfl,am⟩
 |n+1,id,L,h=>by
  unfold readAll at h;obtain⟨e,aa,h⟩:=cB h;obtain⟨s,ab,h⟩:=cB h;obtain⟨l,al,h⟩:=cB h;cases h;obtain⟨bb,bh⟩:=abH al;refine⟨by simp[bb],λj cr ai=>?_⟩;cases j with
  |zero=>cases ai;exact⟨e,aa,ab⟩| succ j=>obtain⟨cY,eW,c8⟩:=bh j cr mt;refine⟨cY,?_,c8⟩;rw[<-eW];congr 1;show id+(j+1)=id+1+j;omega
def abI(k:Nat):∀ (L:List vz) (id:Nat) (t:bk fD),∃ be:bk fD,(∀ {R:Type} (K:bk fD->R),Mv k L id t K=K be) /\ ∀ j e,be.get j=some e->(id<=j/\∃ s,L[j-id]?=some s/\e=s.ja k)\/((j<id\/id+L.length<=j)/\t.get j=some e)
 |[],id,t=>⟨t,λK=>rfl,λj e h=>.inr ⟨d7,h⟩⟩
 |s::L,id,t=>by
  obtain⟨t1,aa,ab⟩:=bk.pk (some (s.ja k)) t id;obtain⟨be,al,aL⟩:=abI k L (id+1) t1;refine⟨be,λK=>?_,λj e h=>?_⟩;·unfold Mv;rw[aa];exact al K
  ·rcases aL j e h with⟨bb,cr,bh,b2⟩ | ⟨bb,bh⟩
   ·refine .inl ⟨Z,cr,?_,b2⟩;rw[show j-id=(j-(id+1))+1 by omega];simpa using bh
   ·rcases ab j e bh with⟨rfl,b2⟩ | ⟨b2,gg⟩
    ·refine .inl ⟨cf _,s,am,?_⟩;cases b2;rfl
    ·refine .inr ⟨?_,gg⟩;simp only[ey];omega
def an4{k:Nat}(dH:∀ id a,D0 id=some a->D (Nat.add id k)=some a){es:List (av×av)}{l:List MapEntry}(h:qQ D0 es l):qQ D (SH k es) l:=by
 induction h with
 |nil=>exact .nil| cons af an t aX=>exact .cons (Fx dH _ af) (Fx dH _ an) aX
def abJ{k:Nat}:∀ {l:List av} {i:Nat} {v:av},(qT k l)[i]?=some v->∃ xk,l[i]?=some xk/\v=j4 k xk
 |[],i,v,h=>by simp[qT]at h
 |x::l,0,v,h=>by simp only[qT,List.getElem?_cons_zero,kW]at h;exact⟨x,rfl,h.symm⟩
 |x::l,i+1,v,h=>by simp only[qT,Gl]at h;simpa using abJ h
def an5{k:Nat}(dH:∀ id a,D0 id=some a->D (Nat.add id k)=some a)(bd:∀ x∈M,x∈M'){a:Loc}{e:fD}{s:vz}(h:lR D0 E M a e)(ag:IS e=some s):lR D E M' a (s.ja k):=by
 cases h with
 | @cells cs T fR arr ax aa ab al aL bB=>
  unfold IS at ag;obtain⟨l,bb,bh,b2⟩:=bk.E9 cs fR 0 _ _ ag;cases b2;obtain⟨be,eW,c8⟩:=bk.yA (qT k l) (.nil:bk av) 0;show lR D E M' a (bk.yt (qT k l) .nil 0 λcs=>fD.cells cs T l.length);rw[eW,bb];refine .cells arr ax (bd _ aa) ab (λi v hi az=>?_) aL bB;rcases c8 i v az with⟨_,h⟩ | ⟨_,h⟩;·obtain⟨xk,aN,rfl⟩:=abJ i9;have:=bh i hi;rw[dg,aN]at this;obtain⟨x,f1,f2⟩:=al i xk hi this;exact⟨x,f1,Fx dH _ f2⟩
  ·cases h
 |map l clock aa ab=>cases ag;exact .map l clock (bd _ aa) (an4 dH ab)| loop L aa ab=>cases ag| done L aa ab al=>cases ag
def an6(aQ:cX Y.P Y.E)(bC:xj Y.P)(iz:Y.P.follows .mixedOrders=true){jw:bx}{xk:av}{L:List vz}(ax:yz ⟨Y.P,Y.E,λ_=>none,λ_ _ _=>none⟩ (lQ ⟨Y.P,Y.E,λ_=>none,λ_ _ _=>none⟩ f) g args ⟨.nil,0⟩=some (xk,jw))(ca:readAll jw.t 0 jw.n=some L)(dN:∀ D us,bQ D args us->bQ (λ_=>none) args us){m m':bx}{v:av}(h:SI xk L m=some (v,m'))(hu:bQ D args us)(hm:dq Y D m I M) :
  Spec Y.P g us I M λr I' M'=>∃ bE,D.ext bE m.n/\aY bE v r/\dq Y bE m' I' M':=by
 have nt:yM ⟨Y.P,Y.E,λ_=>none,λ_ _ _=>none⟩:=λg vs m v m' h=>by cases h
 have uc:dq ⟨Y.P,Y.E,λ_=>none,λ_ _ _=>none⟩ (λ_=>none) ⟨.nil,0⟩ I []:=⟨λid e a h bu=>(by cases bu),λid jb e cY a bT h aa bu=>(by cases bu),λid a h=>ci,λg cs h=>ci⟩;have aw:=(reckon (Y:=⟨Y.P,Y.E,λ_=>none,λ_ _ _=>none⟩) aQ bC nt iz ax (dN D us hu) uc).frame (M:=M);refine Spec.jy aw ?_;rintro r I' k1⟨M0,rfl,bH,bo,D0,-,an,Fy⟩;unfold SI at h;rw[RH,RH]at h;obtain⟨be,aa,ab⟩:=abI m.n L m.n m.t;rw[aa]at h;cases h;obtain⟨bb,bh⟩:=abH ca;let bE:bU:=λid=>if id<m.n then D id else D0 (id-m.n)
 have dH:∀ id a,D0 id=some a->bE (Nat.add id m.n)=some a:=λid a a8=>by show(if id+m.n<m.n then D (id+m.n)else D0 (id+m.n-m.n))=some a;rw[bK Z,Nat.add_sub_cancel,a8]
 have g3:D.le bE:=λid a a8=>by show(if id<m.n then D id else D0 (id-m.n))=some a;rw[bY (hm.j2 _ _ a8),a8]
 have lo:∀ id,id<m.n->bE id=D id:=λid hi=>bY hi;have ck:∀ id,m.n<=id->bE id=D0 (id-m.n):=λid hi=>bK Z;have src:∀ id e a,be.get id=some e->bE id=some a->(m.n<=id/\∃ s dC,e=s.ja m.n/\jw.t.get (id-m.n)=some dC/\IS dC=some s/\D0 (id-m.n)=some a)\/(id<m.n/\m.t.get id=some e/\D id=some a):=λid e a he a8=>by
  rcases ab id e he with⟨eW,s,c8,hJ⟩ | ⟨eW,c8⟩;·obtain⟨dC,nQ,SJ⟩:=bh _ _ c8;rw[dg]at nQ;rw[ck _ eW]at a8;exact .inl ⟨eW,s,dC,hJ,nQ,SJ,a8⟩
  ·rcases Nat.lt_or_ge id m.n with aV | cM
   ·rw[lo _ aV]at a8;exact .inr ⟨aV,c8,a8⟩
   ·rw[ck _ cM]at a8;have:=Fy.j2 _ _ a8;omega
 refine⟨bE,λid hi=>lo id hi,Fx dH _ an,⟨λid e a he a8=>?_,λid jb e cY a bT he ub a8 sS ah=>?_,λid a a8=>?_,hm.qO.mono bo⟩⟩
 ·rcases src id e a he a8 with⟨eW,s,dC,rfl,c8,hJ,nQ⟩ | ⟨eW,c8,hJ⟩
  ·exact an5 dH (λx ae=>iy _ ae) (Fy.ja _ _ _ c8 nQ) hJ
  ·exact(hm.ja _ _ _ c8 hJ).mono g3 λx ae _=>sf _ ae
 ·rcases src id e a he a8 with⟨eW,s,dC,rfl,c8,hJ,nQ⟩ | ⟨eW,c8,hJ⟩
  ·rcases src jb cY bT ub sS with⟨SK,cr,an7,rfl,C8,IT,SL⟩ | ⟨SK,C8,IT⟩
   ·have:=Fy.inj _ _ _ _ _ _ c8 C8 nQ SL ah;omega
   ·obtain⟨x,ae,rX⟩:=Fy.aq c8 nQ;obtain⟨y,aF,SM⟩:=hm.aq C8 IT;exact(bH x ae y aF (rX.trans (ah.trans SM.symm))).elim
  ·rcases src jb cY bT ub sS with⟨SK,cr,an7,rfl,C8,IT,SL⟩ | ⟨SK,C8,IT⟩
   ·obtain⟨x,ae,rX⟩:=Fy.aq C8 SL;obtain⟨y,aF,SM⟩:=hm.aq c8 hJ;exact(bH x ae y aF (rX.trans (ah.symm.trans SM.symm))).elim
   ·exact hm.inj _ _ _ _ _ _ c8 C8 hJ IT ah
 ·show id<m.n+L.length;rcases Nat.lt_or_ge id m.n with aV | cM
  ·omega
  ·rw[ck _ cM]at a8;have:=Fy.j2 _ _ a8;omega
open Go Go.Proofs
def an8(k:Nat):liesAt Tryz.prog Tryz.prog.depth 341 ((k+1)*2/Tryz.prog.cellsOf 341) 0 341 1=true:=by
 have ab:Tryz.prog.cellsOf 341=2:=by kernel_rfl
 have aj:Tryz.prog.depth=(Tryz.prog.depth-1)+1:=by kernel_rfl
 have gJ:sameLayout Tryz.prog Tryz.prog.depth 341 341=true:=by kernel_rfl
 have ag:rowAt Tryz.prog (sameLayout Tryz.prog Tryz.prog.depth · 341) Tryz.prog.depth 341 (k+1) 0 1=true:=by
  generalize aC:(sameLayout Tryz.prog Tryz.prog.depth · 341)=f;have to:f 341=true:=by rw[<-aC];exact gJ
  rw[aj];unfold rowAt;simp only[ab,to];simp
 rw[ab,Nat.mul_div_cancel _ (by decide:0<2)];rw[aj];unfold liesAt;rw[ag];rfl
def an9(ba post:List aD)(b:Nat)(v:Value)(k:Nat)(bq:List Value)(ag:bq.length=2*k) :
  Spec Tryz.prog 344 [ptr b] I (ba++⟨b,.cells (.pointer none::v::bq).toArray 341 (0,0)⟩::post) λr I' M'=>r=.tuple #[]/\I'=I/\M'=ba++⟨b,.cells (cp (.pointer none::v::bq) 0 [ptr b]).toArray 341 (0,0)⟩::post:=by
 obtain⟨inf,z,hi,fp,_⟩:=(aT 341 _ rfl).inf;refine bR [] aT Tryz.func344 rfl rfl rfl ?_;intro B ax;have hm:∀ {o:Obj},(⟨b,o⟩:aD)∈ba++⟨b,o⟩::post:=fun {o}=>cW.2 (.inr (.head _));have dy:(Value.pointer none::v::bq).toArray.size=(k+1)*2:=by simp[ag];omega
 have ay:liesAt Tryz.prog Tryz.prog.depth 341 ((Value.pointer none::v::bq).toArray.size/Tryz.prog.cellsOf 341) 0 341 1=true:=by rw[dy];exact an8 k
 refine aJ.mk [.pointer none] (dj (cs:=.pointer none::v::bq) (k:=0) (n:=1) (T:=341) hm am) ?_;refine .other (bz.KK aT rfl am rfl rfl rfl rfl ?_);refine aS.mk (λ_=>?_) (λh=>ci);refine bz.conv rfl am rfl (λw hw=>Lib.run_to_unsafe (t:=341) (e:=341) w ⟨b,0,none⟩ d4 d4 (j:=inf) (cells:=(Value.pointer none::v::bq).toArray.size) hi (by rw[fp];decide) (KM hw hm) (by rw[dy];show 0<_;omega)) ?_;refine a9.mk (ba++⟨b,.cells (.pointer none::v::bq).toArray 341 (0,0)⟩::post) [] _ am (Pn _) ?_;rintro v I' M' -⟨rfl,rfl,rfl⟩;refine bz.conv rfl am rfl (λw hw=>Lib.run_from_unsafe (u:=341) (e:=341) w ⟨b,0,none⟩ d4 d4 (j:=inf) (cells:=(Value.pointer none::v::bq).toArray.size) hi (KM hw (cW.2 (.inl hm))) ay) ?_;refine b'.mk ba post _ _ (dE _) rfl (by rw[dy];show 0+0+1<=(k+1)*2;omega) rfl ?_;exact⟨_,_,.refl,rfl,rfl,rfl⟩
def aoa{b:Nat}{T:Nat}(bd:(⟨b,.cells arr T (0,0)⟩:aD)∈M)(ax:arr[0]?=some (ptr b)) :
  Spec Tryz.prog 344 [ptr b] I M λr I' M'=>r=.tuple #[]/\I'=I/\M'=M:=by
 refine bR [] aT Tryz.func344 rfl rfl rfl ?_;intro B jk;have ag:cG I M ((⟨b,0,none⟩:Addr).add 0) 1 [ptr b]:=by
  obtain⟨l⟩:=arr;cases l with
  |nil=>simp at ax| cons x l=>simp only[Bi,List.getElem?_cons_zero,kW]at ax;subst ax;exact dj (cs:=ptr b::l) (k:=0) (n:=1) bd am
 refine aJ.mk [ptr b] ag ?_;refine .other (bz.KK aT rfl am rfl rfl rfl rfl ?_);refine aS.mk (λh=>ci) (λ_=>?_);refine aJ.mk [ptr b] ag ?_;refine .other (bz.WV aT rfl am rfl rfl rfl rfl rfl ?_);refine aS.mk (λh=>ci) (λ_=>?_);exact⟨_,_,.refl,rfl,rfl,rfl⟩
def aob{m:bx}{id off:Nat}{T fR:Nat}{a:Loc}{ba post:List aD}(hm:dq Y D m I M)(az:m.t.get id=some (.cells cs T fR))(a8:D id=some a)(aG:a.o=0)(de:M=ba++⟨a.b,.cells arr T (0,0)⟩::post)(dy:a.o+fR<=arr.size)(ar:∀ i v,i<fR->cs.get i=some v->∃ x,arr[a.o+i]?=some x/\aY D v x)(af:∀ i,Y.E T=some i->arr.size=a.o+a.c*i.size)(iz:a.c<=maxLen)
  {l:List av} {vs:List Value} (ay:bQ D l vs) {K:bx->Option R} {r:R} (h:yx m (.p id off) l K=some r) :
  ∃ m',K m'=some r/\m'.n=m.n/\off+vs.length<=arr.size/\dq Y D m' I (ba++⟨a.b,.cells (cp arr.toList off vs).toArray T (0,0)⟩::post):=by
 unfold yx at h;simp only[az]at h;cases ah:(Nat.ble (Nat.add off l.length) fR&&l.all av.one)with
 |false=>rw[ah]at h;cases h
 |true=>
  rw[ah]at h;simp only[cD]at h;rw[cH]at ah;have Az:off+l.length<=fR:=bJ ah.1;obtain⟨cs',aa,ab⟩:=bk.yA l cs off;rw[aa]at h;obtain⟨be,al,aL⟩:=bk.pk (some (fD.cells cs' T fR)) m.t id;rw[al]at h;have c0:=ay.len;have ir:off+vs.length<=arr.size:=by omega
  refine⟨_,h,rfl,ir,?_⟩;have e3:∀ x∈M,x.num≠a.b->x∈ba++⟨a.b,.cells (cp arr.toList off vs).toArray T (0,0)⟩::post:=λx ae aE=>by
   rw[de]at ae;rcases cW.1 ae with ae | ae;·exact cW.2 (.inl ae)
   ·rcases ez.1 ae with rfl | ae
    ·exact(aE rfl).elim
    ·exact cW.2 (.inr (n2 _ ae))
  refine hm.step (λi e hi=>(aL i e hi).imp (λq=>⟨q.1,pt q.2⟩) λq=>q) a8 (bU.le_refl D) (λ_ _=>rfl) hm.j2 (λ_ _ h=>h) (λi e bT bH hi qR x ae aE=>e3 x ae ?_) ?_ ?_;·rw[aE];exact λah=>bH (hm.inj _ _ _ _ _ _ hi az qR a8 ah)
  ·have AA:(cp arr.toList off vs).length=arr.size:=by rw[RZ Id];simp
   refine .cells (cp arr.toList off vs).toArray aG am (by simp[AA];exact dy) (λi v hi Iy=>?_) (λi hi=>by simp[AA];exact af i hi) iz;rw[aG,dg];simp only[Bi];rw[aax Id];rcases ab i v Iy with⟨bb,bh⟩ | ⟨bb,bh⟩;·have aV:=(jd.1 bh).1;rw[bY ⟨bb,Z⟩];exact ay.get bh
   ·rw[bK Z];have:=ar i v hi bh;rw[aG,dg]at this;simpa using this
  ·intro i e bT bH hi qR ah;exact bH (hm.inj _ _ _ _ _ _ hi az qR a8 ah)
noncomputable def SN(m:bx)(vs:List av):Option (av×bx):=match vs with
 |[.p id 0]=>(match m.t.get id with
  |some (.cells cs T fR)=>cc (Nat.beq T 341&&Nat.ble 2 fR) (match cs.get 0 with
   |some .pn=>yx m (.p id 0) [.p id 0] λm=>some (.t [],m)
   |some (.p jb 0)=>cc (Nat.beq id jb) (some (.t [],m)) none| _=>none) none
  |_=>none)
 |_=>none
def aoc(rA:Y.P=Tryz.prog)(aod:Y.E=sA){m m':bx}{vs:List av}{v:av}(h:SN m vs=some (v,m'))(hu:bQ D vs us)(hm:dq Y D m I M) :
  Spec Y.P 344 us I M λr I' M'=>∃ bE,D.ext bE m.n/\aY bE v r/\dq Y bE m' I' M':=by
 unfold SN at h;split at h
 ·rename_i id;obtain⟨x,xs,ae,aE,rfl⟩:=hu.kP;obtain rfl:=aE.n4;obtain⟨a,a8,rfl⟩:=ae.ptr;split at h
  ·rename_i cs T fR az;obtain⟨aa,aM⟩:=f' h;clear h;rw[cH]at aa;obtain⟨bm,Az⟩:=aa;obtain rfl:=ei bm;have Az:=bJ Az;obtain⟨arr,aG,bd,ay,ar,af,iz⟩:=hm.ja _ _ _ az a8;have dy:=af _ (by rw[aod];rfl);have dy:arr.size=a.c*2:=by rw[dy,aG,dg]
   have aK:Value.pointer (some ⟨a.b,a.o+0,none⟩)=ptr a.b:=by rw[aG];rfl
   split at aM
   ·rename_i zJ;obtain⟨wu,gj,IU⟩:=ar 0 _ Z zJ;obtain⟨ba,post,de⟩:=vj bd;obtain⟨c4,ab,al,aL,bB⟩:=aob hm az a8 aG de ay ar af iz (l:=[.p id 0]) (vs:=[ptr a.b]) (by simp only[bQ,aY];exact⟨_,_,⟨a,a8,aK.symm⟩,rfl,rfl⟩) aM;cases ab;rw[aK,rA,de];obtain⟨l⟩:=arr;have aoe:wu=.pointer none:=by simpa only[aY]using IU
    rw[aG]at gj
    match l,gj,dy with
    |[],gj,_=>simp at gj| [_],_,dy=>simp at dy;omega
    |y::w::bq,gj,dy=>
     have aF:y=.pointer none:=by simpa[aoe]using gj
     subst aF;have dw:bq.length=2*(a.c-1):=by simp at dy;omega
     refine Spec.jy (an9 ba post a.b w (a.c-1) bq dw) ?_;rintro r I' M'⟨rfl,rfl,rfl⟩;exact⟨D,bU.pw,ayH,bB⟩
   ·rename_i jb zJ;obtain⟨ab,tQ⟩:=f' aM;obtain rfl:=ei ab;cases tQ;obtain⟨wu,gj,IU⟩:=ar 0 _ Z zJ;obtain⟨bT,sS,rfl⟩:=IU.ptr;rw[a8]at sS;cases sS;rw[aK]at gj |-;rw[rA];refine Spec.jy (aoa bd (by rw[<-gj,aG])) ?_;rintro r I' M'⟨rfl,rfl,rfl⟩;exact⟨D,bU.pw,ayH,hm⟩
   ·cases aM
  ·cases h
 ·cases h
def iI(I:aI):List aD->aI
 |[]=>I| x::l=>ins (iI I l) x.num x.obj
def Mw{I:aI}:∀ {M:List aD} {b:Nat} {o:Obj},iI I M b=some o->I b=some o\/∃ x∈M,x.num=b/\x.obj=o
 |[],b,o,h=>.inl h
 |x::l,b,o,h=>by
  unfold iI ins at h;by_cases e:b=x.num;·subst e;simp only[te,cD,kW]at h;exact .inr ⟨x,am,rfl,h⟩
  ·simp only[hT e,cw]at h;rcases Mw h with h | ⟨y,aa,ab,al⟩
   ·exact .inl h
   ·exact .inr ⟨y,ayP,ab,al⟩
def abK{I:aI}:∀ {M:List aD} (aE:(M.map (·.num)).Nodup) {x:aD},x∈M->iI I M x.num=some x.obj
 |y::l,aE,x,h=>by
  simp only[ch,mw]at aE;rcases ez.1 h with rfl | h;·unfold iI ins;simp only[te,cD]
  ·have e:x.num≠y.num:=λe=>aE.1 (c6.2 ⟨x,h,e⟩);unfold iI ins;simp only[hT e,cw];exact abK aE.2 h
def SO{I:aI}:∀ {M:List aD} (aj:∀ x∈M,I x.num=none) {b:Nat} {o:Obj},I b=some o->iI I M b=some o
 |[],aj,b,o,h=>h
 |y::l,aj,b,o,h=>by
  have e:b≠y.num:=λe=>by have:=aj y am;rw[<-e,h]at this;cases this
  unfold iI ins;simp only[hT e,cw];exact SO (λx ae=>aj x f0) h
def aof(aE:(M.map (·.num)).Nodup)(aj:∀ x∈M,I x.num=none){b:Nat}{o:Obj}(h:ij I M b o):iI I M b=some o:=by
 rcases h with h | ⟨x,aa,rfl,rfl⟩
 ·exact SO aj h
 ·exact abK aE aa
structure ud(I:aI)(M:List aD)(J:aI):Prop where
 aA:∀ b o,ij I M b o->J b=some o
 inv:∀ b o,J b=some o->ij I M b o
def ud.le{J:aI}(h:ud I M J):∀ b o,I b=some o->J b=some o:=λb o ah=>h.aA b o (.inl ah)
def abL(aa:eJ I' M' w')(ab:Kept I [] w I' M' w'):ud I' M' (iI I' M')/\eJ (iI I' M') [] w'/\Kept I [] w (iI I' M') [] w':=by
 refine⟨⟨λb o h=>aof aa.bO aa.d h,λb o h=>?_⟩,⟨λb o h=>?_,am,am,am⟩,⟨λb o h=>SO aa.d (ab.le _ _ h),λb o h=>?_,am,ab.dR,ab.out,ab.sz⟩⟩
 ·rcases Mw h with h | ⟨x,bb,bh,b2⟩
  ·exact .inl h
  ·exact .inr ⟨x,bb,bh,b2⟩
 ·rcases Mw h with h | ⟨x,bb,rfl,rfl⟩
  ·exact aa.i _ _ h
  ·exact aa.m _ bb
 ·rcases Mw h with h | ⟨x,bb,rfl,rfl⟩
  ·exact ab.uB _ _ h
  ·rcases ab.vY _ bb with⟨y,aF,_⟩ | h
   ·cases aF
   ·exact .inr h
def Spec.iI{args:List Value}{Q:Value->aI->List aD->Prop}(h:Spec P f args I [] Q):Spec P f args I [] λr J k1=>k1=[]/\(∀ b o,I b=some o->J b=some o)/\∃ I' M',Q r I' M'/\ud I' M' J:=by
 rcases h with⟨aa,ab⟩ | h
 ·refine .inl ⟨aa,λw hw=>?_⟩;refine(ab w hw).mono ?_;rintro e w'⟨v,I',M',aN,bc,cy,dX⟩;obtain⟨bb,bh,b2⟩:=abL cy dX;exact⟨v,_,[],aN,⟨rfl,b2.le,I',M',bc,bb⟩,bh,b2⟩
 ·refine .inr λw hw=>?_;obtain⟨v,w',I',M',aN,bc,cy,dX⟩:=h w hw;obtain⟨bb,bh,b2⟩:=abL cy dX;exact⟨v,w',_,[],aN,⟨rfl,b2.le,I',M',bc,bb⟩,bh,b2⟩
noncomputable def C9{α:Type}(l:List α):bk α:=bk.yt l .nil 0 id
def abM{l:List α}{i:Nat}{v:α}(h:(C9 l).get i=some v):l[i]?=some v:=by
 obtain⟨t,aa,ab⟩:=bk.yA l (.nil:bk α) 0;unfold C9 at h;rw[aa]at h;rcases ab _ _ h with⟨_,h⟩ | ⟨_,h⟩
 ·simpa using h
 ·cases h
noncomputable def IV:GT:=λg=>cc (Nat.beq g 0) (some (C9 (jl.map (av.i .i64)))) (cc (Nat.beq g 1) (some (C9 (uX.map av.s))) (cc (Nat.beq g 2) (some (C9 [.i .i64 0,.i .i64 1,.s [63],.i .i64 0,.i .i64 (-1),.s [42],.i .i64 1,.i .i64 (-1),.s [43]])) (cc (Nat.beq g 4) (some (C9 (kK.map (av.i .u8)))) none)))
def SP{f:α->av}{h:α->Value}(aC:∀ x D,aY D (f x) (h x)){l:List α}{i:Nat}{v:av}(an:(C9 (l.map f)).get i=some v):∃ x,(l.map h).toArray[i]?=some x/\∀ D,aY D v x:=by
 have:=abM an;rw[jJ]at this;cases ae:l[i]? with
 |none=>rw[ae]at this;cases this| some x=>rw[ae]at this;simp only[lx,kW]at this;subst this;exact⟨h x,f0,aC x⟩
def aog(bm:fr I kK):Il IV I:=by
 intro g cs h;unfold IV at h;rw[kO,kO,kO,kO]at h;cases aa:Nat.beq g 0 with
 |true=>rw[aa,cD]at h;obtain rfl:=ei aa;have h:=eX h;subst h;obtain⟨T,f,h⟩:=bm.c;exact⟨_,T,f,h,λi v an=>SP (f:=av.i .i64) (h:=Value.int .i64) (λx D=>i4) an⟩
 |false=>
 rw[aa,cw]at h;cases ab:Nat.beq g 1 with
 |true=>rw[ab,cD]at h;obtain rfl:=ei ab;have h:=eX h;subst h;obtain⟨T,f,h⟩:=bm.s;exact⟨_,T,f,h,λi v an=>SP (f:=av.s) (h:=λl=>Value.string (strOf l)) (λx D=>by simp only[aY,strOf]) an⟩
 |false=>
 rw[ab,cw]at h;cases al:Nat.beq g 2 with
 |true=>
  rw[al,cD]at h;obtain rfl:=ei al;have h:=eX h;subst h;obtain⟨T,f,h⟩:=bm.p;refine⟨_,T,f,h,λi v an=>?_⟩;have an:=abM an;rcases i with _ | _ | _ | _ | _ | _ | _ | _ | _ | i
  all_goals first | (cases an;exact⟨_,rfl,λD=>by simp only[aY]<;>rfl⟩) | (simp at an)
 |false=>
 rw[al,cw]at h;cases aL:Nat.beq g 4 with
 |true=>rw[aL,cD]at h;obtain rfl:=ei aL;have h:=eX h;subst h;obtain⟨_,_,T,f,h⟩:=bm.d;exact⟨_,T,f,h,λi v an=>SP (f:=av.i .u8) (h:=Value.int .u8) (λx D=>i4) an⟩
 |false=>
 rw[aL,cw]at h;cases h
noncomputable def Mx:List UInt8->Nat->Nat->Int
 |[],_,_=>-1| b::l,c,k=>cc (Nat.beq b.toNat c) (Int.ofNat k) (Mx l c (Nat.succ k))
def abN(c:UInt8):∀ (l:List UInt8) (k:Nat),Mx l c.toNat k=if Lib.indexByte l c=-1 then -1 else Lib.indexByte l c+k
 |[],k=>rfl
 |b::l,k=>by
  have cM:=Lib.indexByte_ge l c;unfold Mx Lib.indexByte;rw[kO];by_cases h:b=c;·subst h;simp
  ·have aa:Nat.beq b.toNat c.toNat=false:=by
    cases ah:Nat.beq b.toNat c.toNat with
    |false=>rfl| true=>exact absurd (UInt8.toNat_inj.1 (ei ah)) h
   have ab:(b == c)=false:=by simpa using h
   rw[aa,cw,ab,abN c l];simp only[lX,mV];by_cases al:Lib.indexByte l c=-1;·simp[al]
   ·have aL:(Lib.indexByte l c == -1)=false:=by simpa using al
    rw[aL,bK al];simp only[lX,mV];rw[bK Z];omega
def abO:xj Tryz.prog:=anC d4
def abP:Tryz.prog.follows .mixedOrders=true:=by kernel_rfl
noncomputable def abQ:gX:=⟨Tryz.prog,sA,λ_=>none,λ_ _ _=>none⟩
noncomputable def abR:List vz:=[.map [(.i .u8 123,.f 366 [] []),(.i .u8 34,.f 367 [] []),(.i .u8 91,.f 368 [] []),(.i .u8 46,.f 369 [] []),(.i .u8 47,.f 388 [] [.p 1 0]),(.i .u8 38,.f 388 [] [.p 2 0]),(.i .u8 33,.f 388 [] [.p 3 0]),(.i .u8 63,.f 388 [] [.p 4 0]),(.i .u8 42,.f 388 [] [.p 5 0]),(.i .u8 43,.f 388 [] [.p 6 0]),(.i .u8 40,.f 388 [] [.p 7 0]),(.i .u8 41,.f 388 [] [.p 8 0]),(.i .u8 60,.f 371 [] []),(.i .u8 62,.f 388 [] [.p 10 0]),(.i .u8 58,.f 388 [] [.p 11 0]),(.i .u8 65,.f 372 [] []),(.i .u8 66,.f 372 [] []),(.i .u8 67,.f 372 [] []),(.i .u8 68,.f 372 [] []),(.i .u8 69,.f 372 [] []),(.i .u8 70,.f 372 [] []),(.i .u8 71,.f 372 [] []),(.i .u8 72,.f 372 [] []),(.i .u8 73,.f 372 [] []),(.i .u8 74,.f 372 [] []),(.i .u8 75,.f 372 [] []),(.i .u8 76,.f 372 [] []),(.i .u8 77,.f 372 [] []),(.i .u8 78,.f 372 [] []),(.i .u8 79,.f 372 [] []),(.i .u8 80,.f 372 [] []),(.i .u8 81,.f 372 [] []),(.i .u8 82,.f 372 [] []),(.i .u8 83,.f 372 [] []),(.i .u8 84,.f 372 [] []),(.i .u8 85,.f 372 [] []),(.i .u8 86,.f 372 [] []),(.i .u8 87,.f 372 [] []),(.i .u8 88,.f 372 [] []),(.i .u8 89,.f 372 [] []),(.i .u8 90,.f 372 [] []),(.i .u8 95,.f 372 [] []),(.i .u8 97,.f 372 [] []),(.i .u8 98,.f 372 [] []),(.i .u8 99,.f 372 [] []),(.i .u8 100,.f 372 [] []),(.i .u8 101,.f 372 [] []),(.i .u8 102,.f 372 [] []),(.i .u8 103,.f 372 [] []),(.i .u8 104,.f 372 [] []),(.i .u8 105,.f 372 [] []),(.i .u8 106,.f 372 [] []),(.i .u8 107,.f 372 [] []),(.i .u8 108,.f 372 [] []),(.i .u8 109,.f 372 [] []),(.i .u8 110,.f 372 [] []),(.i .u8 111,.f 372 [] []),(.i .u8 112,.f 372 [] []),(.i .u8 113,.f 372 [] []),(.i .u8 114,.f 372 [] []),(.i .u8 115,.f 372 [] []),(.i .u8 116,.f 372 [] []),(.i .u8 117,.f 372 [] []),(.i .u8 118,.f 372 [] []),(.i .u8 119,.f 372 [] []),(.i .u8 120,.f 372 [] []),(.i .u8 121,.f 372 [] []),(.i .u8 122,.f 372 [] [])],.cells [.i .u8 3] 5,.cells [.i .u8 4] 5,.cells [.i .u8 5] 5,.cells [.i .u8 6] 5,.cells [.i .u8 7] 5,.cells [.i .u8 8] 5,.cells [.i .u8 9] 5,.cells [.i .u8 10] 5,.cells [.i .u8 11] 5,.cells [.i .u8 12] 5,.cells [.i .u8 13] 5]
def aoh:(bw (yz abQ (lQ abQ 100000) 346 [] ⟨.nil,0⟩) none λp=>bw (readAll p.2.t 0 p.2.n) none λL=>some (p.1,L))=some (av.m 0,abR):=by kernel_rfl
noncomputable def SQ:me:=λg vs m=>cc (Nat.beq g 407) (match vs with
 |[.s l,.i .u8 (.ofNat k)]=>cc (Nat.blt k 256) (some (.i .i64 (Mx l k 0),m)) none| _=>none) (cc (Nat.beq g 365) (match vs with
 |[v]=>some (v,m)| _=>none) (cc (Nat.beq g 346) (match vs with
 |[]=>SI (.m 0) abR m| _=>none) (cc (Nat.beq g 344) (SN m vs) none)))
noncomputable def vA:gX:=⟨Tryz.prog,sA,IV,SQ⟩
def aoi:yM vA:=by
 intro g vs m v m' h D I M us hu hm;change SQ g vs m=some (v,m')at h;unfold SQ at h;rw[kO]at h;cases aa:Nat.beq g 407 with
 |true=>
  rw[aa,cD]at h;obtain rfl:=ei aa;split at h
  ·rename_i l k;rw[kO]at h;cases af:Nat.blt k 256 with
   |false=>rw[af]at h;cases h
   |true=>
    rw[af,cD]at h;have hQ:k<256:=Nat.blt_eq ▸ af;cases h;simp only[bQ,aY]at hu;obtain⟨x,xs,rfl,⟨y,ys,rfl,rfl,rfl⟩,rfl⟩:=hu;have mL:(UInt8.ofNat k).toNat=k:=by simp;omega
    have:=WX (I:=I) (M:=M) ⟨l.toArray⟩ (UInt8.ofNat k);rw[mL]at this;refine Spec.jy this ?_;rintro r I' M'⟨rfl,rfl,rfl⟩;refine⟨D,bU.pw,?_,hm⟩;simp only[aY];have:=abN (UInt8.ofNat k) l 0;rw[mL]at this;rw[this];split;·rename_i e;simp[e]
    ·simp
  ·cases h
 |false=>
 rw[aa,cw,kO]at h;cases ab:Nat.beq g 365 with
 |true=>
  rw[ab,cD]at h;obtain rfl:=ei ab;split at h;·cases h;simp only[bQ]at hu;obtain⟨x,xs,hu,rfl,rfl⟩:=hu;refine Spec.jy (Pn _) ?_;rintro r I' M'⟨rfl,rfl,rfl⟩;exact⟨D,bU.pw,hu,hm⟩
  ·cases h
 |false=>
 rw[ab,cw,kO]at h;cases al:Nat.beq g 346 with
 |true=>
  rw[al,cD]at h;obtain rfl:=ei al;split at h;·obtain⟨⟨xk,jw⟩,aL,bB⟩:=cB aoh;obtain⟨L,cA,eB⟩:=cB bB;cases eB;exact an6 (Y:=vA) aT abO abP aL cA (λD us h=>by simpa only[bQ]using h) h hu hm
  ·cases h
 |false=>
 rw[al,cw,kO]at h;cases aL:Nat.beq g 344 with
 |true=>rw[aL,cD]at h;obtain rfl:=ei aL;exact aoc rfl rfl h hu hm
 |false=>
 rw[aL,cw]at h;cases h
def abS(bm:fr I kK){m':bx}{v:av}(h:yz vA (lQ vA f) g args ⟨.nil,0⟩=some (v,m'))(hu:bQ (λ_=>none) args us) :
  Spec Tryz.prog g us I [] λr J k1=>k1=[]/\(∀ b o,I b=some o->J b=some o)/\∃ I' M' bE,aY bE v r/\dq vA bE m' I' M'/\ud I' M' J:=by
 have hm:dq vA (λ_=>none) ⟨.nil,0⟩ I []:=⟨λid e a h bu=>(by cases bu),λid jb e cY a bT h aa bu=>(by cases bu),λid a h=>ci,aog bm⟩;refine Spec.jy (reckon (Y:=vA) aT abO aoi abP h hu hm).iI ?_;rintro r J k1⟨rfl,aa,I',M',⟨bE,-,ab,al⟩,aL⟩;exact⟨rfl,aa,I',M',bE,ab,al,aL⟩
def aoj:∀ {l:List Int} (h:0<l.length),l.headD 0=l[0]
 |a::l,_=>rfl
def oy(ns:List ak)(xs:List a0):Bool:=ns.any λd=>decide (d.k=6)&&(decide (d.hi=-1)&&(xs.getD (d.ao.headD 0).toNat cn).z)
def aok(p:α->Bool)(l:List α)(x:α):(l++[x]).any p=(l.any p||p x):=by simp
def aol{p:α->Bool}{l:List α}{i:Nat}(h:(l.take i).any p=true):l.any p=true:=by rw[Fm]at h |-;obtain⟨x,ae,aK⟩:=h;exact⟨x,uW ae,aK⟩
def aom{t:bf}(au:t.ok I)(ag:right t=true){xa:Option Addr}{xc:Nat}{xs:List a0}(ae:mb I M0 xa t.n xs):Spec Tryz.prog 266 [t.val,.slice xa t.n xc] I M0 λv I' M'=>v=.bool (oy t.ns xs)/\I'=I/\M'=M0:=by
 refine bR [] aT Tryz.func266 rfl rfl rfl ?_;intro B ax;have gu:=au.n;have g8:=au.a'.cap;have rX:=ae.n;refine c2.inv (ι:=Nat) (λi=>{ bn:=[(1,.val (.slice xa t.n xc)),(8,.val (.slice t.a t.n t.c)),(9,.val (.int .i64 t.n)),(10,.val (.int .i64 i))],cm:=I,cK:=M0 }) (λi=>i<=t.n/\(t.ns.take i).any (λd=>decide (d.k=6)&&(decide (d.hi=-1)&&(xs.getD (d.ao.headD 0).toNat cn).z))=false) (λi=>t.n-i) ?_ ?_
 ·exact⟨0,⟨dh _,rfl⟩,.refl,dS,.nil⟩
 rintro i⟨hi,eV⟩;refine aS.mk (λh=>?_) (λh=>?_)
 rotate_left
 ·have cM:i=t.n:=by have:¬ (i:Int)<(t.n:Int):=db h;omega
  rw[fE Z]at eV;refine⟨_,_,.refl,?_,rfl,rfl⟩;rw[oy,eV]
 have aV:i<t.n:=by have:(i:Int)<(t.n:Int):=cv h;omega
 have cF:i<t.ns.length:=by omega
 obtain⟨ad,bt,bj⟩:=au.a'.row ak.cq aV cF;have aj:=au.ns _ (bD cF);have rN:=D' ag cF;have gp:=jX ag i cF;have eF:=aj.aA;have mP:(t.ns.take (i+1)).any (λd=>decide (d.k=6)&&(decide (d.hi=-1)&&(xs.getD (d.ao.headD 0).toNat cn).z))=(decide (t.ns[i].k=6)&&(decide (t.ns[i].hi=-1)&&(xs.getD (t.ns[i].ao.headD 0).toNat cn).z)):=by rw[gi cF,aok,eV,zg]
 generalize t.ns[i]=d at bj aj rN gp eF mP;refine bi.mk ad i bt rfl aV ?_;refine aJ.mk _ (bj _) ?_;refine bZ.mk (λcA=>?_) (λcA=>?_)
 rotate_left
 ·have My:decide (d.k=6)=false:=cA;rw[My]at mP;refine a3.mk _ (cC (i:=i) Z) ?_;exact⟨i+1,⟨⟨aV,mP⟩,Z⟩,.refl,dS,.nil⟩
 have My:decide (d.k=6)=true:=cA;have axf:d.k=6:=cv My;rw[My,m5]at mP;refine bZ.mk (λaa=>?_) (λaa=>?_)
 rotate_left
 ·have hz:decide (d.hi=-1)=false:=aa;rw[hz]at mP;refine a3.mk _ (cC (i:=i) Z) ?_;exact⟨i+1,⟨⟨aV,mP⟩,Z⟩,.refl,dS,.nil⟩
 have hz:decide (d.hi=-1)=true:=aa;rw[hz,m5]at mP;have jH:0<d.ao.length:=by have:=Yw aj.k.1 rN Z;omega
 obtain⟨fq,eN,eL⟩:=aj.a'.one (j:=0) Z jH;have an:=gp _ (bD jH);have cU:d.ao.headD 0=d.ao[0]:=aoj jH;rw[cU]at mP;have hA:d.ao[0].toNat<xs.length:=by omega
 obtain⟨SR,SS,nv⟩:=ae.rd _ hA;have az:xs.getD d.ao[0].toNat cn=xs[d.ao[0].toNat]:=by simp[bP,hA]
 rw[az]at mP;refine bi.mk fq 0 eN rfl Z ?_;refine aJ.mk _ (eL _) ?_;refine bi.mk SR d.ao[0].toNat SS Z Z ?_;refine aJ.mk _ (nv.part (k:=0) (m:=1) bv) ?_;refine aS.mk (λbg=>?_) (λbg=>?_)
 ·have gU:xs[d.ao[0].toNat].z=true:=bg;refine⟨_,_,.refl,?_,rfl,rfl⟩;rw[oy,aol (i:=i+1) (by rw[mP,gU])]
 ·have gU:xs[d.ao[0].toNat].z=false:=bg;rw[gU]at mP;refine a3.mk _ (cC (i:=i) Z) ?_;exact⟨i+1,⟨⟨aV,mP⟩,Z⟩,.refl,dS,.nil⟩
def ec.mark(s:ec)(i k:Nat):ec:=⟨s.n,s.m.set i (s.m.getD i 0 ||| lN k),s.w⟩
def kR(b:Nat)(s:ec):aD:=⟨b,.cells s.cells.toArray 215 (0,0)⟩
def ec.cq(s:ec):s.cells.length=66:=by simp[ec.cells,ua]
def aon{b:Nat}{s:ec}(bd:kR b s∈M)(ai:j<64):cG I M (((⟨b,0,none⟩:Addr).add 1).add (j*1)) 1 [pq (s.m.getD j 0)]:=by rw[eK (⟨b,0,none⟩:Addr) rfl,eK _ rfl];refine⟨rfl,_,_,_,.inr ⟨_,bd,rfl,rfl⟩,?_,rfl⟩;simp only[dg,gm];show(s.cells.drop (1+j)).take 1=_;rw[ec.cells,J2 1 j,H0,Q0 (by rw[ua];omega),e9 (by rw[ua];exact ai),pP,rr,qw];simp[lk]
def aoo{s:ec}(aw:s.m.length=64){i k:Nat}(hi:i<64):cp s.cells (0+1+i*1) [pq (s.m.getD i 0 ||| lN k)]=(s.mark i k).cells:=by
 unfold ec.cells ec.mark;simp only;have aN:cp (Value.int .i64 s.n::(lk s.m++[pq s.w])) (0+1+i*1) [pq (s.m.getD i 0 ||| lN k)]=Value.int .i64 s.n::(cp (lk s.m) (0+i*1) [pq (s.m.getD i 0 ||| lN k)]++[pq s.w]):=by have h:=Z' [Value.int .i64 s.n] (lk s.m) [pq s.w] i [pq (s.m.getD i 0 ||| lN k)] (by rw[ua];show i+1<=64;omega);simp only[pi,qJ,ey,hl,dg,gm]at h |-;exact h
 rw[aN,aak s.m aw i hi]
def b'.aop{b x y:Nat}{vs:List Value}{K:List aD->Prop}(ba post:List aD)(cs:List Value)(T:Nat)(bd:M=ba++⟨b,.cells cs.toArray T (0,0)⟩::post)(ah:0+x+y+vs.length<=cs.length)(aa:fG vs=true)
  (cs':List Value) (he:cp cs (0+x+y) vs=cs') (h:K (ba++⟨b,.cells cs'.toArray T (0,0)⟩::post)):b' M (((⟨b,0,none⟩:Addr).add x).add y) vs K:=by
 rw[eK (⟨b,0,none⟩:Addr) rfl,eK _ rfl];exact b'.nk ba post cs.toArray T bd rfl (by rw[nY];simpa using ah) aa cs' he h
def aoq{M1:List aD}{g:cR}(az:g.ok I){nm:ByteArray}{k:Nat}(af:eT nm g.ds 0=k)(SU:k<64){b6 b7 i:Nat}(hi:i<64){s:ec}(aw:s.m.length=64)(aa:(⟨b1,.cells #[.slice g.a g.n g.c] 28 (0,0)⟩:aD)∈M1)(eB:(⟨b7,.cells #[.int .i64 i] 3 (0,0)⟩:aD)∈M1) :
  Spec Tryz.prog 265 [.string nm,ptr b1,ptr b6,ptr b7] I (kR b6 s::M1) λv I' M'=>I'=I/\M'=kR b6 (s.mark i k)::M1:=by
 refine bR [] aT Tryz.func265 rfl rfl rfl ?_;intro B ax;refine aJ.mk [.slice g.a g.n g.c] ⟨rfl,_,_,_,.inr ⟨_,.tail _ aa,rfl,rfl⟩,rfl,rfl⟩ ?_;have aC:Spec Tryz.prog 111 [g.val,.string nm] I (kR b6 s::M1) λv I' M'=>v=.int .i64 k/\I'=I/\M'=kR b6 s::M1:=by refine Spec.jy (Spec.frame (aiU az nm)) ?_;rintro v J M⟨M',rfl,-,-,rfl,rfl,rfl⟩;rw[af];exact⟨rfl,rfl,rfl⟩
 refine a9.whole _ aC ?_;rintro v J N -⟨rfl,a6,hp⟩;subst J;subst N;refine aS.mk (λ_=>?_) (λh=>?_)
 rotate_left
 ·have:¬ (0:Int)<=(k:Int):=db h;omega
 refine cN.draw aT rfl rfl rfl ?_;refine aJ.mk [.int .i64 i] ⟨rfl,_,_,_,.inr ⟨_,.tail _ eB,rfl,rfl⟩,rfl,rfl⟩ ?_;refine cj.mk i rfl hi ?_;refine aJ.mk _ (aon (.head _) hi) ?_;refine sk.mk k rfl ?_;refine a3.mk _ (RP SU) ?_;refine cj.mk i rfl hi ?_;refine b'.aop [] M1 s.cells _ rfl ?_ rfl (s.mark i k).cells ?_ ?_
 ·rw[ec.cq];show 0+1+i*1+1<=66;omega
 ·show cp s.cells (0+1+i*1) [Value.int .u64 (lj (s.m.getD i 0).toNat (lN k).toNat)]=_;rw[t'];exact aoo aw hi
 exact⟨_,_,.refl,rfl,rfl⟩
def a5.ints(w:a5):∀ x∈[(w.a.toNat:Int),(w.b.toNat:Int),(w.c.toNat:Int),(w.d.toNat:Int)],eC x:=by
 have aa:=w.a.isLt;have ab:=w.b.isLt;have al:=w.c.isLt;have aL:=w.d.isLt;intro x ae;simp only[ez,List.not_mem_nil,or_false]at ae;unfold eC;rcases ae with rfl | rfl | rfl | rfl<;>omega
def aor(w:a5)(h:n<256):Ip [(w.a.toNat:Int),(w.b.toNat:Int),(w.c.toNat:Int),(w.d.toNat:Int)] n=w.has n:=by
 unfold Ip a5.has;rcases(by omega:n/64=0\/n/64=1\/n/64=2\/n/64=3)with ai | ai | ai | ai<;>rw[ai]
 ·rw[a5.PL];rfl
 ·rw[a5.qF];rfl
 ·rw[a5.El];rfl
 ·rw[a5.ak9];rfl
def a5.aos{w:a5}{b:UInt8}(h:w.has b.toNat=true):w.or (j0 b)=w:=by
 refine a5.Y9 λn aE=>?_;rw[a5.QP,QQ b aE];by_cases e:n=b.toNat
 ·subst e;simp[h]
 ·simp[e]
def iJ(p:Nat->Bool):Nat->a5
 |0=>.zero| n+1=>bif p n then(iJ p n).or (j0 (UInt8.ofNat n))else iJ p n
def abT(p:Nat->Bool){m:Nat}(hm:m<256):∀ n,n<=256->(iJ p n).has m=(decide (m<n)&&p m)
 |0,_=>by rw[iJ,a5.alb];simp
 |n+1,aE=>by
  have aX:=abT p hm n Z;rw[iJ];cases aK:p n with
  |false=>
   simp only[cw,aX];by_cases e:m=n;·subst e;simp[aK]
   ·congr 1;rw[my,gN,gN];omega
  |true=>
   simp only[cD,a5.QP,aX,QQ _ hm,Fc (show n<256 by omega)];by_cases e:m=n;·subst e;simp[aK]
   ·have aa:decide (m=n)=false:=fb e;rw[aa,Bool.or_false];congr 1;rw[my,gN,gN];omega
def Mz{p:Nat->Bool}{w:a5}(h:∀ n,n<256->p n=w.has n):iJ p 256=w:=a5.Y9 λn aE=>by rw[abT p aE 256 (cf _),h n aE,hM aE,m5]
def Da(w:a5)(b:UInt8):Spec Tryz.prog 169 [w.val,.int .u8 b.toNat] I [] λv I' M'=>v=.bool (w.has b.toNat)/\I'=I/\M'=[]:=by have h:=alO (I:=I) w.ints b;rwa [aor w b.toNat_lt]at h
def MA{w:BitVec 64}{k:Nat}(af:k<64)(h:w.getLsbD k=false):IntKind.u64.wrap ((w.toNat:Int)+((2^k:Nat):Int))=((w ||| (1#64 <<< k)).toNat:Int):=by
 have bg:w &&& (1#64 <<< k)=0#64:=by
  apply HG;intro i hi;rw[Ew,Y' k i af hi];by_cases e:i=k;·subst e;simp[h]
  ·simp[e]
 have aa:(1#64 <<< k).toNat=2^k:=by rw[Q1,Q2];have:2^k<2^64:=LA bv af;simp only[Co];rw[z9 (by decide:1<2^64),m6];exact z9 this
 rw[<-BitVec.add_eq_or_of_and_eq_zero _ _ bg,BitVec.toNat_add,aa];unfold IntKind.wrap;simp only[IntKind.bits,IntKind.signed];simp
def IW(w:a5)(b:UInt8):Spec Tryz.prog 170 [w.val,.int .u8 b.toNat] I [] λv I' M'=>v=(w.or (j0 b)).val/\I'=I/\M'=[]:=by
 have ae:=b.toNat_lt;have yB:=aaa (I:=I) (b.toNat%64) Z;have em:((b.toNat:Int)).tmod 64=((b.toNat%64:Nat):Int):=rfl;have ht:((b.toNat:Int)).tdiv 64=((b.toNat/64:Nat):Int):=rfl;refine bR [] aT Tryz.func170 rfl rfl rfl ?_;intro B ax;refine a9.mk [] [] _ (.refl _) (Da w b) ?_;rintro v I' M' -⟨rfl,rfl,rfl⟩;refine aS.mk (λh=>?_) (λh=>?_)
 rotate_left
 ·have cU:w.has b.toNat=true:=by simpa using h
  rw[a5.aos cU];exact⟨_,_,.refl,rfl,rfl,rfl⟩
 have cU:w.has b.toNat=false:=by simpa using h
 have af:∀ j,b.toNat/64=j->(w.at j).getLsbD (b.toNat%64)=false:=λj ai=>by rw[<-ai];exact cU
 refine cN.draw aT rfl rfl rfl ?_;refine a3.mk (b.toNat:Int) (wrap_i64 ⟨Z,Z⟩) ?_;refine h4.mk bv ?_;rcases(by omega:b.toNat/64=0\/b.toNat/64=1\/b.toNat/64=2\/b.toNat/64=3)with ai | ai | ai | ai
 ·refine a3.mk 0 ip ?_;refine a3.mk (b.toNat:Int) (wrap_i64 ⟨Z,Z⟩) ?_;refine h4.mk bv ?_;refine a3.mk 0 ip ?_;refine cj.mk 0 rfl bv ?_;refine a3.mk (b.toNat:Int) (wrap_i64 ⟨Z,Z⟩) ?_;refine h4.mk bv ?_;refine er.mk _ yB ?_;rintro v J N -⟨rfl,rfl,rfl⟩;refine a3.mk _ (MA (w:=w.a) Z (af 0 ai)) ?_;refine cj.mk 0 rfl bv ?_;refine⟨_,_,.refl,?_,rfl,rfl⟩;rw[show j0 b=a5.one 0 (1#64 <<< (b.toNat%64)) by rw[j0,ai]];simp[a5.val,a5.or,a5.one]
  try rfl
 ·refine a3.mk 1 ip ?_;refine a3.mk (b.toNat:Int) (wrap_i64 ⟨Z,Z⟩) ?_;refine h4.mk bv ?_;refine a3.mk 1 ip ?_;refine cj.mk 1 rfl bv ?_;refine a3.mk (b.toNat:Int) (wrap_i64 ⟨Z,Z⟩) ?_;refine h4.mk bv ?_;refine er.mk _ yB ?_;rintro v J N -⟨rfl,rfl,rfl⟩;refine a3.mk _ (MA (w:=w.b) Z (af 1 ai)) ?_;refine cj.mk 1 rfl bv ?_;refine⟨_,_,.refl,?_,rfl,rfl⟩;rw[show j0 b=a5.one 1 (1#64 <<< (b.toNat%64)) by rw[j0,ai]];simp[a5.val,a5.or,a5.one]
  try rfl
 ·refine a3.mk 2 ip ?_;refine a3.mk (b.toNat:Int) (wrap_i64 ⟨Z,Z⟩) ?_;refine h4.mk bv ?_;refine a3.mk 2 ip ?_;refine cj.mk 2 rfl bv ?_;refine a3.mk (b.toNat:Int) (wrap_i64 ⟨Z,Z⟩) ?_;refine h4.mk bv ?_;refine er.mk _ yB ?_;rintro v J N -⟨rfl,rfl,rfl⟩;refine a3.mk _ (MA (w:=w.c) Z (af 2 ai)) ?_;refine cj.mk 2 rfl bv ?_;refine⟨_,_,.refl,?_,rfl,rfl⟩;rw[show j0 b=a5.one 2 (1#64 <<< (b.toNat%64)) by rw[j0,ai]];simp[a5.val,a5.or,a5.one]
  try rfl
 ·refine a3.mk 3 ip ?_;refine a3.mk (b.toNat:Int) (wrap_i64 ⟨Z,Z⟩) ?_;refine h4.mk bv ?_;refine a3.mk 3 ip ?_;refine cj.mk 3 rfl bv ?_;refine a3.mk (b.toNat:Int) (wrap_i64 ⟨Z,Z⟩) ?_;refine h4.mk bv ?_;refine er.mk _ yB ?_;rintro v J N -⟨rfl,rfl,rfl⟩;refine a3.mk _ (MA (w:=w.d) Z (af 3 ai)) ?_;refine cj.mk 3 rfl bv ?_;refine⟨_,_,.refl,?_,rfl,rfl⟩;rw[show j0 b=a5.one 3 (1#64 <<< (b.toNat%64)) by rw[j0,ai]];simp[a5.val,a5.or,a5.one]
  try rfl
def aot(x y:a5):Spec Tryz.prog 84 [x.val,y.val] I [] λv I' M'=>v=(iJ (λn=>x.has n||y.has n) 256).val/\I'=I/\M'=[]:=by
 refine bR [] aT Tryz.func84 rfl rfl rfl ?_;intro B ax;refine c2.inv (ι:=Nat) (λi=>{ bn:=[(2,.ref 2 0),(3,.ref 3 0),(4,.ref 4 0),(5,.ref 5 0),(6,.val (.int .i64 i))],cl:=[(2,x.cells),(3,y.cells),(4,a5.zero.cells),(5,(iJ (λn=>x.has n||y.has n) i).cells)],cm:=I }) (λi=>i<=256) (λi=>256-i) ?_ ?_
 ·exact⟨0,am,.refl,fh,.cons rfl (.cons rfl (.cons rfl (.cons rfl (.nil))))⟩
 intro i hi;refine aS.mk (λh=>?_) (λh=>?_)
 rotate_left
 ·have:i=256:=by have:¬ (i:Int)<256:=db h;omega
  subst this;exact⟨_,_,.refl,rfl,rfl,rfl⟩
 have aV:i<256:=by have:(i:Int)<256:=cv h;omega
 have mh:=L4 aV;have ah:(UInt8.ofNat i).toNat=i:=Fc aV;have ae:=Da (I:=I) x (UInt8.ofNat i);have aF:=Da (I:=I) y (UInt8.ofNat i);rw[ah]at ae aF;refine a3.mk (i:Int) Fd ?_;refine a9.mk [] [] _ (.refl _) ae ?_;rintro v I1 M1 -⟨rfl,rfl,rfl⟩;refine bZ.mk (λaa=>?_) (λaa=>?_)
 ·have hz:x.has i=false:=aa;refine a3.mk (i:Int) Fd ?_;refine a9.mk [] [] _ (.refl _) aF ?_;rintro v I1 M1 -⟨rfl,rfl,rfl⟩;refine aS.mk (λab=>?_) (λab=>?_)
  ·have hn:y.has i=true:=ab;exact(by
   refine a3.mk (i:Int) Fd ?_;have hw:=IW (I:=I1) (iJ (λn=>x.has n||y.has n) i) (UInt8.ofNat i);rw[ah]at hw;refine a9.mk [] [] _ (.refl _) hw ?_;rintro v ed dp -⟨rfl,rfl,rfl⟩;refine a3.mk _ (cC (i:=i) Z) ?_;refine⟨i+1,⟨Z,Z⟩,.refl,fh,.cons rfl (.cons rfl (.cons rfl (.cons ?_ .nil)))⟩;have e:(x.has i||y.has i)=true:=by rw[hz,hn];rfl
   simp only[iJ,e,cD];rfl)
  ·have hn:y.has i=false:=ab;exact(by
   refine a3.mk _ (cC (i:=i) Z) ?_;refine⟨i+1,⟨Z,Z⟩,.refl,fh,.cons rfl (.cons rfl (.cons rfl (.cons ?_ .nil)))⟩;have e:(x.has i||y.has i)=false:=by rw[hz,hn];rfl
   simp only[iJ,e,cw];rfl)
 ·have hz:x.has i=true:=aa;exact(by
   refine a3.mk (i:Int) Fd ?_;have hw:=IW (I:=I1) (iJ (λn=>x.has n||y.has n) i) (UInt8.ofNat i);rw[ah]at hw;refine a9.mk [] [] _ (.refl _) hw ?_;rintro v ed dp -⟨rfl,rfl,rfl⟩;refine a3.mk _ (cC (i:=i) Z) ?_;refine⟨i+1,⟨Z,Z⟩,.refl,fh,.cons rfl (.cons rfl (.cons rfl (.cons ?_ .nil)))⟩;have e:(x.has i||y.has i)=true:=by rw[hz];rfl
   simp only[iJ,e,cD];rfl)
def aou(x y:a5):Spec Tryz.prog 87 [x.val,y.val] I [] λv I' M'=>v=(iJ (λn=>x.has n && !y.has n) 256).val/\I'=I/\M'=[]:=by
 refine bR [] aT Tryz.func87 rfl rfl rfl ?_;intro B ax;refine c2.inv (ι:=Nat) (λi=>{ bn:=[(2,.ref 2 0),(3,.ref 3 0),(4,.ref 4 0),(5,.ref 5 0),(6,.val (.int .i64 i))],cl:=[(2,x.cells),(3,y.cells),(4,a5.zero.cells),(5,(iJ (λn=>x.has n && !y.has n) i).cells)],cm:=I }) (λi=>i<=256) (λi=>256-i) ?_ ?_
 ·exact⟨0,am,.refl,fh,.cons rfl (.cons rfl (.cons rfl (.cons rfl (.nil))))⟩
 intro i hi;refine aS.mk (λh=>?_) (λh=>?_)
 rotate_left
 ·have:i=256:=by have:¬ (i:Int)<256:=db h;omega
  subst this;exact⟨_,_,.refl,rfl,rfl,rfl⟩
 have aV:i<256:=by have:(i:Int)<256:=cv h;omega
 have mh:=L4 aV;have ah:(UInt8.ofNat i).toNat=i:=Fc aV;have ae:=Da (I:=I) x (UInt8.ofNat i);have aF:=Da (I:=I) y (UInt8.ofNat i);rw[ah]at ae aF;refine a3.mk (i:Int) Fd ?_;refine a9.mk [] [] _ (.refl _) ae ?_;rintro v I1 M1 -⟨rfl,rfl,rfl⟩;refine bZ.mk (λaa=>?_) (λaa=>?_)
 ·have hz:x.has i=true:=aa;refine a3.mk (i:Int) Fd ?_;refine a9.mk [] [] _ (.refl _) aF ?_;rintro v I1 M1 -⟨rfl,rfl,rfl⟩;refine aS.mk (λab=>?_) (λab=>?_)
  ·have hn:y.has i=false:=by simpa using ab
   exact(by
   refine a3.mk (i:Int) Fd ?_;have hw:=IW (I:=I1) (iJ (λn=>x.has n && !y.has n) i) (UInt8.ofNat i);rw[ah]at hw;refine a9.mk [] [] _ (.refl _) hw ?_;rintro v ed dp -⟨rfl,rfl,rfl⟩;refine a3.mk _ (cC (i:=i) Z) ?_;refine⟨i+1,⟨Z,Z⟩,.refl,fh,.cons rfl (.cons rfl (.cons rfl (.cons ?_ .nil)))⟩;have e:(x.has i && !y.has i)=true:=by rw[hz,hn];rfl
   simp only[iJ,e,cD];rfl)
  ·have hn:y.has i=true:=by simpa using ab
   exact(by
   refine a3.mk _ (cC (i:=i) Z) ?_;refine⟨i+1,⟨Z,Z⟩,.refl,fh,.cons rfl (.cons rfl (.cons rfl (.cons ?_ .nil)))⟩;have e:(x.has i && !y.has i)=false:=by rw[hz,hn];rfl
   simp only[iJ,e,cw];rfl)
 ·have hz:x.has i=false:=aa;exact(by
   refine a3.mk _ (cC (i:=i) Z) ?_;refine⟨i+1,⟨Z,Z⟩,.refl,fh,.cons rfl (.cons rfl (.cons rfl (.cons ?_ .nil)))⟩;have e:(x.has i && !y.has i)=false:=by rw[hz];rfl
   simp only[iJ,e,cw];rfl)
def aov(x y:a5):Spec Tryz.prog 84 [x.val,y.val] I [] λv I' M'=>v=(x.or y).val/\I'=I/\M'=[]:=by have h:=aot (I:=I) x y;rwa [Mz (w:=x.or y) (λn _=>(a5.QP x y n).symm)]at h
def aow(b:UInt8):Spec Tryz.prog 91 [.int .u8 b.toNat,.int .u8 b.toNat] I [] λv I' M'=>v=(j0 b).val/\I'=I/\M'=[]:=by
 have kf:b.toNat<256:=b.toNat_lt;have aK:iJ (λn=>decide (b.toNat<=n)&&decide (n<=b.toNat)) 256=j0 b:=Mz λn aE=>by rw[QQ b aE,my];simp only[cH,gN];omega
 refine bR [] aT Tryz.func91 rfl rfl rfl ?_;intro B ax;refine c2.inv (ι:=Nat) (λi=>{ bn:=[(0,.val (.int .u8 b.toNat)),(1,.val (.int .u8 b.toNat)),(4,.ref 4 0),(5,.ref 5 0),(6,.val (.int .i64 i))],cl:=[(4,a5.zero.cells),(5,(iJ (λn=>decide (b.toNat<=n)&&decide (n<=b.toNat)) i).cells)],cm:=I }) (λi=>i<=256) (λi=>256-i) ?_ ?_
 ·exact⟨0,am,.refl,fh,.cons rfl (.cons rfl (.nil))⟩
 intro i hi;refine aS.mk (λh=>?_) (λh=>?_)
 rotate_left
 ·have:i=256:=by have:¬ (i:Int)<256:=db h;omega
  subst this;refine⟨_,_,.refl,?_,rfl,rfl⟩;rw[<-aK];rfl
 have aV:i<256:=by have:(i:Int)<256:=cv h;omega
 have mh:=L4 aV;have ah:(UInt8.ofNat i).toNat=i:=Fc aV;refine a3.mk (b.toNat:Int) (iY rfl Z) ?_;refine bZ.mk (λaa=>?_) (λaa=>?_)
 ·have hz:decide (b.toNat<=i)=true:=by have:(b.toNat:Int)<=(i:Int):=cv aa;exact hM Z
  refine a3.mk (b.toNat:Int) (iY rfl Z) ?_;refine aS.mk (λab=>?_) (λab=>?_)
  ·have hn:decide (i<=b.toNat)=true:=by have:(i:Int)<=(b.toNat:Int):=cv ab;exact hM Z
   refine a3.mk (i:Int) Fd ?_;have hw:=IW (I:=I) (iJ (λn=>decide (b.toNat<=n)&&decide (n<=b.toNat)) i) (UInt8.ofNat i);rw[ah]at hw;refine a9.mk [] [] _ (.refl _) hw ?_;rintro v ed dp -⟨rfl,rfl,rfl⟩;refine a3.mk _ (cC (i:=i) Z) ?_;refine⟨i+1,⟨Z,Z⟩,.refl,fh,.cons rfl (.cons ?_ .nil)⟩;have e:(decide (b.toNat<=i)&&decide (i<=b.toNat))=true:=by rw[hz,hn];rfl
   simp only[iJ,e,cD];rfl
  ·have hn:decide (i<=b.toNat)=false:=by have:¬ (i:Int)<=(b.toNat:Int):=db ab;exact fb Z
   refine a3.mk _ (cC (i:=i) Z) ?_;refine⟨i+1,⟨Z,Z⟩,.refl,fh,.cons rfl (.cons ?_ .nil)⟩;have e:(decide (b.toNat<=i)&&decide (i<=b.toNat))=false:=by rw[hz,hn];rfl
   simp only[iJ,e,cw];rfl
 ·have hz:decide (b.toNat<=i)=false:=by have:¬ (b.toNat:Int)<=(i:Int):=db aa;exact fb Z
  refine a3.mk _ (cC (i:=i) Z) ?_;refine⟨i+1,⟨Z,Z⟩,.refl,fh,.cons rfl (.cons ?_ .nil)⟩;have e:(decide (b.toNat<=i)&&decide (i<=b.toNat))=false:=by rw[hz];rfl
  simp only[iJ,e,cw];rfl
def SV{t:bf}(au:t.ok I)(aC:Fit t W){r:Bool}(ag:right t=r):Spec Tryz.prog 171 [t.val] I M0 λv I' M'=>v=.bool r/\I'=I/\M'=M0:=by refine Spec.jy (Spec.frame (X7 au W aC.w aC.b)) ?_;rintro v J M⟨M',rfl,-,-,rfl,rfl,rfl⟩;rw[ag];exact⟨rfl,rfl,rfl⟩
def aox{t:bf}(au:t.ok I)(ag:right t=true)(aC:Fit t W){node:Nat}(aE:node<t.n):Spec Tryz.prog 172 [t.val,.int .i64 node] I M0 λv I' M'=>(∀ b o,I b=some o->I' b=some o)/\M'=M0/\∃ be:bf,v=.tuple #[be.val,.bool true]/\be.ok I'/\lg t node be:=by refine Spec.jy (Spec.frame (aj0 au ag W aC.w aC.b aC.n aE)) ?_;rintro v J M⟨M',rfl,-,-,aa,rfl,be,rfl,ab,al,aL,-⟩;exact⟨aa,rfl,be,rfl,ab,⟨al,aL⟩⟩
def aoy{t:bf}(ag:right t=true)(aC:Fit t W)(au:t.ok I)(ai:j<t.ns.length){be:bf}(h:lg t j be)(hR:be.ok I'):Fit be W:=by
 have ay:=QR ag ai h;have aw:=Aa ag t.ns.length j ai Z;have aE:=au.n;have xR:=hR.n;have bo:be.n<=t.n:=by omega
 refine⟨λd aj=>?_,iO (oJ W bo) aC.b,iO bo aC.n⟩;obtain⟨d0,ax,ks,e,af⟩:=alc ag ai h d aj;have bc:d.ao=ks:=by have:=congrArg ak.ao e;exact this
 have aa:=(hR.ns d aj).aA;have ab:=(au.ns d0 ax).aA;have al:=aC.w d0 ax;rw[bc]at aa;omega
def aoz{t:bf}(au:t.ok I)(ag:right t=true)(aC:Fit t W):Spec Tryz.prog 85 [t.val] I M0 λv I' M'=>v=((nodeAt t.ns t.bp.toNat).dJ []).val/\I'=I/\M'=M0:=by
 refine bR [] aT Tryz.func85 rfl rfl rfl ?_;intro B ax;have gu:=au.n;obtain⟨og,hI⟩:=kh ag;obtain⟨r,dD⟩:=dZ og;have dw:r<t.ns.length:=by omega
 obtain⟨ad,bt,bj⟩:=au.a'.row ak.cq (show r<t.n by omega) dw;have jL:nodeAt t.ns t.bp.toNat=t.ns[r]:=by rw[dD];exact fw dw
 rw[jL];generalize t.ns[r]=d at bj;refine a9.whole _ (SV au aC ag) ?_;rintro v J N -⟨rfl,a6,hp⟩;subst J;subst N;refine aS.mk (λh=>absurd h am) (λ_=>?_);refine bi.mk ad r bt dD Z ?_;refine aJ.mk _ (bj _) ?_;exact⟨_,_,.refl,rfl,rfl,rfl⟩
structure aoA(I:aI)(t:bf)(d:ak)(x:Nat×aO×List bf×aI):Prop where
 i:x.1<=d.aA
 os:x.2.1.ok 2 (x.2.2.1.flatMap bf.cells)
 len:x.2.2.1.length=x.1
 le:∀ b o,I b=some o->x.2.2.2 b=some o
 all:∀ q (h:q<x.2.2.1.length),(x.2.2.1[q]).ok x.2.2.2/\lg t (d.ao.getD q 0) x.2.2.1[q]
def aoB{t:bf}(au:t.ok I)(ag:right t=true)(aC:Fit t W):Spec Tryz.prog 86 [t.val] I M0 λv I' M'=>(∀ b o,I b=some o->I' b=some o)/\∃ (os:aO) (L:List bf),os.ok 2 (L.flatMap bf.cells)/\v=os.val/\M'=os.aq 24++M0 /\
  L.length=(nodeAt t.ns t.bp.toNat).ao.length/\∀ q (h:q<L.length),(L[q]).ok I'/\lg t ((nodeAt t.ns t.bp.toNat).ao.getD q 0) L[q]:=by
 refine bR [] aT Tryz.func86 rfl rfl rfl ?_;intro B ax;have gu:=au.n;obtain⟨og,hI⟩:=kh ag;obtain⟨r,dD⟩:=dZ og;have dw:r<t.ns.length:=by omega
 obtain⟨ad,bt,bj⟩:=au.a'.row ak.cq (show r<t.n by omega) dw;have jL:nodeAt t.ns t.bp.toNat=t.ns[r]:=by rw[dD];exact fw dw
 have gr:=bD dw;have aj:=au.ns _ gr;have aoC:=aC.w _ gr;have gp:=jX ag r dw;have aoD:t.ns[r].ao.length<=t.ns.length:=by
  have aa:=z' ag dw;have ab:=Aa ag t.ns.length r dw Z;have al:t.ns[r].ao.length<=fC (iF t.ns) t.ns[r].ao:=Cq ag λk af=>by have:=gp k af;omega
  omega
 rw[jL];generalize t.ns[r]=d at bj aj aoC gp aoD;have eF:=aj.aA;have mL:=aj.a'.cap;have wY:=aC.n;refine a9.whole _ (SV au aC ag) ?_;rintro v J N -⟨rfl,a6,hp⟩;subst J;subst N;refine aS.mk (λh=>absurd h am) (λ_=>?_);refine bi.mk ad r bt dD Z ?_;refine aJ.mk _ ((bj _).part (k:=8) (m:=1) bv) ?_;refine c2.inv (ι:=Nat×aO×List bf×aI) (λx=>{ bn:=[(1,.ref 1 0),(3,.val x.2.1.val),(4,.val (.slice d.bX d.aA d.b5)),(5,.val (.int .i64 x.1))],cl:=[(1,t.cells)],cm:=x.2.2.2,cK:=x.2.1.aq 24++M0 }) (aoA I t d) (λx=>d.aA-x.1) ?_ ?_
 ·exact⟨(0,gV,[],I),⟨dh _,jt 2,rfl,λ_ _ h=>h,λq h=>absurd h (mO _)⟩,.refl,dS,.cons rfl (.nil)⟩
 rintro⟨i,os,L,K⟩⟨hi,bV,ca,c7,eG⟩;simp only at hi bV ca c7 eG;have AM:os.n=i:=by have:=bV.len;rw[gz bf.cells 2 (λ_=>rfl)]at this;omega
 refine aS.mk (λh=>?_) (λh=>?_)
 rotate_left
 ·have cM:i=d.aA:=by have:¬ (i:Int)<(d.aA:Int):=db h;omega
  exact⟨_,_,.refl,c7,os,L,bV,rfl,rfl,Z,eG⟩
 have aV:i<d.aA:=by have:(i:Int)<(d.aA:Int):=cv h;omega
 have dP:i<d.ao.length:=by omega
 obtain⟨fq,eN,eL⟩:=(aj.a'.mono c7).one aV dP;have aM:=gp _ (bD dP);have rv:d.ao.getD i 0=d.ao[i]:=by simp[bP,dP]
 generalize d.ao[i]=Xz at eL aM rv;obtain⟨q,rfl⟩:=dZ aM.1;have iD:∀ {M:List aD},Spec Tryz.prog 172 [t.val,.int .i64 q] K M λv I' M'=>(∀ b o,K b=some o->I' b=some o)/\M'=M/\∃ be:bf,v=.tuple #[be.val,.bool true]/\be.ok I'/\lg t q be:=fun {M}=>aox (au.mono c7) ag aC Z;refine cN.BH aT rfl rfl rfl (ι:=Nat×aI×bf) (λs=>{ bn:=[(1,.ref 1 0),(3,.val os.val),(4,.val (.slice d.bX d.aA d.b5)),(5,.val (.int .i64 i)),(6,.val (ptr s.1))],cl:=[(1,t.cells)],cm:=s.2.1,cK:=⟨s.1,.cells s.2.2.cells.toArray 24 (0,0)⟩::(os.aq 24++M0) }) (λs=>(∀ b o,K b=some o->s.2.1 b=some o)/\s.2.2.ok s.2.1/\lg t q s.2.2) ?_ ?_
 ·refine bi.mk fq i eN rfl aV ?_;refine aJ.mk _ (eL _) ?_;refine⟨?_,?_⟩
  ·refine a9.whole _ iD ?_;rintro v kr dp -⟨qU,rfl,be,rfl,aa,ab⟩;refine bN.mk λs aw aoE=>?_;refine b'.nk [] _ _ _ rfl rfl rfl rfl be.cells rfl ?_;exact⟨(s,kr,be),⟨qU,aa,ab⟩,.refl,fh,.cons rfl (.nil)⟩
  ·refine bN.mk λs aw aoE=>?_;refine er.whole _ iD (λv I' M' h x ae=>ax') ?_;rintro v kr dp -⟨qU,rfl,be,rfl,aa,ab⟩;refine b'.nk [] _ _ _ rfl rfl rfl rfl be.cells rfl ?_;exact⟨(s,kr,be),⟨qU,aa,ab⟩,.refl,fh,.cons rfl (.nil)⟩
 rintro⟨aoF,kr,be⟩⟨qU,aa,ab⟩;simp only at qU aa ab;refine aJ.mk be.cells ⟨rfl,_,_,_,.inr ⟨_,.head _,rfl,rfl⟩,rfl,rfl⟩ ?_;refine bN.mk λb9 kI x'=>?_;refine bz.lh aT rfl am (e:=24) rfl rfl rfl os bV rfl (cs:=be.cells) rfl rfl rfl [⟨aoF,.cells be.cells.toArray 24 (0,0)⟩] M0 rfl Z (by show(os.n+1)*32<=_;omega) ?_;intro hD kQ gq h9;refine a3.mk _ (cC (i:=i) Z) ?_;refine⟨(i+1,hD,L++[be],kr),⟨⟨aV,?_,by simp[ca],λb o h=>qU _ _ (c7 _ _ h),λp aK=>?_⟩,ce⟩,.sub (.cons _ (.refl _)) .refl,dS,.cons rfl (.nil)⟩
 ·simp only;rw[fL];simpa using h9
 ·simp only at aK |-;by_cases e:p<L.length
  ·rw[wE e];obtain⟨bb,bh⟩:=eG p e;exact⟨bb.mono qU,bh⟩
  ·have u':p=L.length:=by simp at aK;omega
   subst u';rw[Le rfl,ca,rv];exact⟨aa,ab⟩
def a5.aoG(x y:a5)(n:Nat):(x.and y).has n=(x.has n&&y.has n):=by
 unfold a5.has;have:∀ j,(x.and y).at j=x.at j &&& y.at j:=λj=>by
  unfold a5.at
  cases decide (j=0)<;>cases decide (j=1)<;>cases decide (j=2)<;>rfl
 rw[this,Ew]
section
end
structure aoH(d:ak)(n:Int):Prop where
 z:d.k=0->d.t=⟨#[]⟩
 leaf:d.k<=3->n=0
 one:6<=d.k->n=1
 two:d.k=4\/d.k=5->2<=n
theorem abU{d:ak}{n:Int}(ax:0<=d.k)(h:fits d n=true):aoH d n:=by
 have aw:=(Pz h).k;have af:d.k=0\/d.k=1\/d.k=2\/d.k=3\/d.k=4\/d.k=5\/d.k=6\/d.k=7\/d.k=8\/d.k=9:=by omega
 have dN:∀ j:Fin 10,oe j.val=jl.getD (j.val*2) 0/\nc j.val=jl.getD (j.val*2+1) 0:=by decide
 unfold fits at h;rcases af with e | e | e | e | e | e | e | e | e | e<;>rw[e]at h<;>simp[oe,nc,jl]at h <;>
  refine⟨λq=>?_,λq=>?_,λq=>?_,λq=>?_⟩<;>first | (omega;done) | (exact h.2.2.1;done) | (exact h.2.1;done) | (simp_all;done)
end Go.V
