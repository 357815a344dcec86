/- Part 6 of what the proofs of this seat share: the executor, data in memory, walks.
-/
import Derived.Test.YthnoknnlcnikbaaGreatDoorK5
import Derived.Lib.SliceRun
import Derived.Test.YthnoknnlcnikbaaGreatDoorK3
import Derived.Test.YthnoknnlcnikbaaGreatDoorK4
set_option linter.all false
set_option maxHeartbeats 8000000
set_option maxRecDepth 100000
namespace Go.V
open Go
def ng:=@Nat.not_lt_zero
def Fu:=@List.any_eq_true
def Sb:=@List.reverse_reverse
variable{my:TypeDesc}{g n t e cQ b1 gw j f n0:Nat}{arr:Array Value}{x os p0 lo hi mx:Operand}{cb xs yK us:List Value}{cX a:Option Addr}{w w':World}{u mr:Value}{ut:Option ea}{aF lY db:ea}{R α:Type}{cs:bh ap}{args:List ap}{dC:Array Nat}{P:Program}{E:Env}{c4 hM:IntKind}{op:Op}{dst:Option Nat}{D bG D0:bR}{F dc:Fr}{call:ap->List ap->bw->Option (ap×bw)}{ops:List Oper}{b:Bool}{β:Nat->Nat}{X:c3}{Q:Exit->Act->World->Prop}{Y:gS}{I dQ I':aH}{M M0 M':List aE}{row:List (Nat×Nat)}{ex:to}{ps:List Nat}{fk body:Code}{ju:Loc}{G:GT}{pr:mb}
section
variable{P:Program}{w:World}
def aaR(t u ty e:Nat)(i:TypeInfo)(aq:P.underlying t=some (.slice e))(hu:P.underlying u=some my)(n5:∀ k,my≠.int k)(hi:P.info? e=some i)
 {off c T:Nat} (aw:w.heap[g]?=some (.cells arr T (0,0))) {x:Value} {m:Nat} (aa:∀ v∈cb,v.oneCell'=true)
  (cS:∀ w',(Builtin.lenOf x).run P w'=.ok m w') (e8:(Builtin.firstCells i.size m x).run P w=.ok cb.toArray w) (uT:n+m<=c) (iu:off+n*i.size+cb.length<=arr.size) :
  (Builtin.append_ #[t,u] ty #[.slice (some ⟨g,off,none⟩) n c,x]).run P w=.ok (.slice (some ⟨g,off,none⟩) (n+m) c) (w.setRow g (cj arr.toList (off+n*i.size) cb).toArray):=by
 have Hm:(match my with | .int _=>true | _=>false)=false:=by cases my<;>first | rfl | exact(n5 _ rfl).elim
 have fu:=run_storeCells_at P g (off+n*i.size) T cb 0 arr w aw (by simpa using iu) aa;simp only[oz]at fu;have IQ:(Addr.add ⟨g,off,none⟩ (n*i.size))=⟨g,off+n*i.size,none⟩:=eS _ rfl _;simp[Builtin.append_,run_underlying aq,run_underlying hu,sizeOf,typeInfo,hi,cS,uT,e8,IQ,fu,cj]
def amd(t u ty e:Nat)(i:TypeInfo)(z:Value)(aq:P.underlying t=some (.slice e))(hu:P.underlying u=some my)(n5:∀ k,my≠.int k)(hi:P.info? e=some i)(bb:i.zero=some z)(qx:z.cells.size=i.size)
 {c:Nat} (hold:(Builtin.firstCells i.size n (.slice cX n c)).run P w.drew=.ok xs.toArray w.drew) (qS:xs.length=n*i.size) {x:Value} {m:Nat} (ax:cb.length=m*i.size)
  (cS:∀ w',(Builtin.lenOf x).run P w'=.ok m w') (e8:(Builtin.firstCells i.size m x).run P w.drew=.ok cb.toArray w.drew) (uT:c<n+m) (b1:n+m<=maxLen) (b8:(n+m)*i.bytes<=140737488355328) :
  ∃ cap aS,(Builtin.append_ #[t,u] ty #[.slice cX n c,x]).run P w=.ok (.slice (some ⟨w.heap.size,0,none⟩) (n+m) cap) (w.drew.alloc (.cells (xs++cb++aS).toArray e (0,0)))/\n+m<=cap/\cap<=maxLen/\(xs++cb++aS).length=cap*i.size:=by
 have Hm:(match my with | .int _=>true | _=>false)=false:=by cases my<;>first | rfl | exact(n5 _ rfl).elim
 have aD:¬ (n+m<=c):=by omega
 have jF:n+m<=9223372036854775807:=by simp only[maxLen]at b1;exact b1
 have B7:¬ (9223372036854775807<((n:Int)+(m:Int))):=by omega
 have B8:¬ (281474976710656<Builtin.nextslicecap (n+m) c*i.bytes):=by have:=growslice_fits (by omega:c<n+m) b8;omega
 have c0:=grownCap_ge w (n+m) c e;have l1:grownCap w (n+m) c e<=maxLen:=grownCap_le_maxLen w (n+m) c e b1;refine⟨grownCap w (n+m) c e,(Builtin.zeroCells z.cells (grownCap w (n+m) c e-(n+m))).toList,?_,c0,l1,?_⟩
 ·simp[Builtin.append_,run_underlying aq,run_underlying hu,sizeOf,typeInfo,zeroValue,hi,bb,cS,aD,B7,B8,Question.forced,e8,hold,newRow,grownCap];congr 2;apply gX;simp
 ·rw[cr,cr,qS,ax,xS,size_zeroCells,qx,<-lX,<-lX];congr 1;omega
end
section
variable{X:c3}{G:GT}{pr:mb}{D:bR}{m m':bw}{F:Fr}{an:bh ap}{C:dN}{I:aH}{M:List aE}{K:gl}{o:Oper}{v:ap}
def cR.ME{aM:Addr}{vs:List Value}(h:cR I M aM n vs)(hU:eM I M w)(j:Nat)(v:Value)(ai:vs[j]?=some v):w.cell? (aM.add j)=some v:=by
 obtain⟨c9,cs,T,an,fj,aj,ax⟩:=h;rw[eS _ c9,tl (fj.heap hU)];rw[<-aj,lb]at ai;split at ai
 ·rw[mO]at ai;simpa using ai
 ·cases ai
def ame{x:ap}{k:Nat}{K:List ap->Option R}{r:R}(h:E9 G m.t x aF.size K=some r)(av:wW ut aF x=true)(ab:aU D x u)(hm:dh (dZ X G pr) D m I M)(ae:sV x=some k)(ay:k≠0) :
  ∃ l vs,K l=some r/\bO D l vs/\(∀ w',(Builtin.lenOf u).run X.P w'=.ok k w')/\(∀ w,eM I M w->(Builtin.firstCells aF.size k u).run X.P w=.ok vs.toArray w)/\vs.length=k*aF.size /\
   ((∃ a b z e,ut=some ⟨a,b,z,.slice e⟩)\/∃ a b z,ut=some ⟨a,b,z,.string⟩):=by
 have Sc:(∃ a b z e,ut=some ⟨a,b,z,.slice e⟩)\/∃ a b z,ut=some ⟨a,b,z,.string⟩:=by
  unfold wW at av;split at av<;>first | exact .inl ⟨_,_,_,_,rfl⟩ | exact .inr ⟨_,_,_,rfl⟩ | cases av
 cases x<;>simp only[E9]at h<;>first | cases h | skip
 case sn=>simp[sV,wV]at ae;exact(ay ae.symm).elim
 case so=>simp[sV,wV]at ae;exact(ay ae.symm).elim
 case sl id off n c=>
  simp only[sV,wV,kK]at ae;subst ae;obtain⟨a,a7,rfl⟩:=ab.sW;obtain⟨aM,l,vs,aI,bp,ax,h⟩:=w0 (u:=.pointer (some ⟨a.b,a.o+off,none⟩)) hm (by simp only[aU];exact⟨a,a7,rfl⟩) h;cases aI;have AK:=bp;obtain⟨_,_,_,_,_,_,cS⟩:=AK;exact⟨l,vs,h,ax,λ_=>rfl,λw hw=>run_firstCells_some (P:=X.P) w aF.size n _ n c vs cS (λj v ai=>bp.ME hw j v ai),cS,Sc⟩
 case sx id off e n=>
  simp only[sV,wV,kK]at ae;subst ae;obtain⟨a,a7,_,rfl⟩:=ab.vk;obtain⟨aM,l,vs,aI,bp,ax,h⟩:=w0 (u:=.pointer (some ⟨a.b,a.o+off,none⟩)) hm (by simp only[aU];exact⟨a,a7,rfl⟩) h;cases aI;have AK:=bp;obtain⟨_,_,_,_,_,_,cS⟩:=AK;exact⟨l,vs,h,ax,λ_=>rfl,λw hw=>run_firstCells_some (P:=X.P) w aF.size n _ n _ vs cS (λj v ai=>bp.ME hw j v ai),cS,Sc⟩
 case s q=>
  simp only[sV,kK]at ae;subst ae;have amf:aF.size=1:=by
   unfold wW at av;split at av<;>first | exact ed av | (rename_i e;cases e) | cases av
  have:=ab.str;subst this;have aL:(⟨q.toArray⟩:ByteArray).size=q.length:=by simp[ByteArray.size]
  refine⟨_,lv ⟨q.toArray⟩,h,aaQ q,λw=>?_,λw hw=>?_,by simp[lv,amf],Sc⟩;·show Result.ok _ _=_;rw[aL]
  ·have:=V9 w aF.size (P:=X.P) ⟨q.toArray⟩;rw[aL]at this;exact this
def Sd(aN:cW X.P X.E)(ah:∀ d,o.dst=some d->d<X.n){s:Operand}{u:Nat}(aA:o.op=.call { callee:=.builtin .append,args:=#[s,x],argTypes:=#[t,u] })
 (aq:X.E t=some ⟨cQ,b1,yK,.slice e⟩) (hu:X.E u=some lY) (fN:∀ k,lY.bP≠.int k) (he:X.E e=some aF)
 {c k:Nat} {Se:Value} (av:bH F s=.val (.slice cX n c)) (ab:bH F x=.val Se) (qS:xs.length=n*aF.size) (oL:cb.length=k*aF.size) (aa:fK cb=true)
  (cS:∀ w',(Builtin.lenOf Se).run X.P w'=.ok k w') (e8:∀ w,eM I M w->(Builtin.firstCells aF.size k Se).run X.P w=.ok cb.toArray w)
  (hold:∀ w,eM I M w->(Builtin.firstCells aF.size n (.slice cX n c)).run X.P w=.ok xs.toArray w) (b1:n+k<=maxLen) (b8:(n+k)*aF.bytes<=140737488355328)
  (amg:n+k<=c->∃ g off T arr a9 post,cX=some ⟨g,off,none⟩/\M=a9++⟨g,.cells arr T (0,0)⟩::post/\off+n*aF.size+cb.length<=arr.size /\ K (put o.dst (.val (.slice cX (n+k) c)) F) C I (a9++⟨g,.cells (cj arr.toList (off+n*aF.size) cb).toArray T (0,0)⟩::post))
  (amh:c<n+k->∀ b cap aS,I b=none->(∀ y∈M,y.num≠b)->n+k<=cap->cap<=maxLen->(xs++cb++aS).length=cap*aF.size ->
   K (put o.dst (.val (.slice (some ⟨b,0,none⟩) (n+k) cap)) F) C I (⟨b,.cells (xs++cb++aS).toArray e (0,0)⟩::M)):bD X o F C I M K:=by
 refine⟨λa w Q ⟨β,aV⟩=>?_⟩;obtain⟨inf,z,hi,ft,hW,im,kb⟩:=(aN _ _ he).inf;obtain⟨d,fP,fl⟩:=(aN _ _ hu).fs;obtain⟨g3,iU,kS⟩:=(aN _ _ aq).fs;have oO:g3=.slice e:=by cases g3<;>simp_all[fr]
 subst oO;have qx:z.cells.size=inf.size:=by rw[ft,<-(aN _ _ he).len,<-kb];simp
 have es:=dj aV.an av;have ex:=dj aV.an ab;have n5:∀ k,d≠.int k:=λk cZ=>fN k (by rw[<-fl,cZ];rfl);rw[<-ft]at qS oL hold e8;by_cases uT:n+k<=c
 ·obtain⟨g,off,T,arr,a9,post,rfl,ba,iu,ae⟩:=amg uT;rw[<-ft]at iu ae;have aw:w.heap[g]?=some (.cells arr T (0,0)):=aV.holds.m ⟨g,.cells arr T (0,0)⟩ (by rw[ba];simp);have fb:=aaR (P:=X.P) (w:=w) t u o.type e inf iU fP n5 hi aw (zq aa) cS (e8 w aV.holds) uT iu;refine iN (by rw[aA];simp) ?_ ⟨_,_,_,_,⟨β,cN.put (x:=.val (.slice (some ⟨g,off,none⟩) (n+k) c)) (aV.xI ba) ah rfl⟩,ae⟩;unfold execOp;simp only[aA,resolve,invoke,builtin,cp,da,bZ,rm,b5,hy,es,ex,fb]
 ·have hU:eM I M w.drew:=aV.holds.heap rfl;obtain⟨cap,aS,fb,ad,ak,aK⟩:=amd (P:=X.P) (w:=w) t u o.type e inf z iU fP n5 hi im qx (hold w.drew hU) qS oL cS (e8 w.drew hU) (by omega) b1 (by rw[hW];exact b8);have m3:cN X β a w.drew F C I M:=aV.world rfl;rw[ft]at aK;refine iN (by rw[aA];simp) ?_ ⟨_,_,_,_,⟨β,cN.put (x:=.val (.slice (some ⟨w.heap.size,0,none⟩) (n+k) cap)) (m3.n2 (.cells (xs++cb++aS).toArray e (0,0))) ah rfl⟩,amh (by omega) w.heap.size cap aS aV.holds.sp aV.holds.q7 ad ak aK⟩;unfold execOp;simp only[aA,resolve,invoke,builtin,cp,da,bZ,rm,b5,hy,es,ex,fb]
def aaS{u:Nat}{x:ap}(h:wW (X.E u) aF x=true):∃ lY,X.E u=some lY/\∀ k,lY.bP≠.int k:=by
 unfold wW at h;split at h<;>first | (cases h;done) | (rename_i e;exact⟨_,e,by simp⟩) | (rename_i e _;exact⟨_,e,by simp⟩) | (rename_i e _ _;exact⟨_,e,by simp⟩)
def ami{s:ap}(h:E' s=true)(av:aU D s u):∃ a n c,u=.slice a n c/\n<=c:=by
 cases s<;>simp only[E',ld]at h
 case sn=>exact⟨_,_,_,av.CW,b' _⟩
 case so=>obtain⟨a,c,rfl⟩:=av.Mq;exact⟨_,_,_,rfl,dp _⟩
 case sl=>obtain⟨a,_,rfl⟩:=av.sW;exact⟨_,_,_,rfl,bK h⟩
 case sx=>obtain⟨a,_,bf,rfl⟩:=av.vk;exact⟨_,_,_,rfl,by omega⟩
def amj{x:ap}(av:wW ut aF x=true)(ab:aU D x u)(ae:sV x=some 0):(∃ b c,u=.slice b 0 c)\/u=.string .empty:=by
 cases x<;>simp[sV,wV]at ae
 case sn=>exact .inl ⟨_,_,ab.CW⟩
 case so=>obtain⟨a,c,rfl⟩:=ab.Mq;exact .inl ⟨_,_,rfl⟩
 case sl=>subst ae;obtain⟨a,_,rfl⟩:=ab.sW;exact .inl ⟨_,_,rfl⟩
 case sx=>subst ae;obtain⟨a,_,_,rfl⟩:=ab.vk;exact .inl ⟨_,_,rfl⟩
 case gs=>subst ae;exact .inl ⟨_,_,ab.RR⟩
 case s=>subst ae;exact .inr ab.str
noncomputable abbrev Sf(X:c3)(G:GT)(m:bw)(s x:ap)(aF:ea)(aG e:Nat):List ap->Option (ap×bw):=λl=>bu (some aG) none λk=>b2 (Nat.beq k 0) (b2 (E' s) (some (s,m)) none) (b2 (l.all ap.one) (Iq G m s l k aF.size aF.bytes e) none)
def amk(aN:cW X.P X.E)(ah:∀ d,o.dst=some d->d<X.n){u:Nat}(aA:o.op=.call { callee:=.builtin .append,args:=#[os,p0],argTypes:=#[t,u] })
 (aq:X.E t=some ⟨cQ,b1,yK,.slice e⟩) {s x:ap} (vo:wW (X.E u) aF x=true) (he:X.E e=some aF) (ae:sV x=some 0) {us:Value}
  (es:bH F os=.val us) (gs:aU D s us) (ex:bH F p0=.val mr) (AL:aU D x mr) (h:E9 G m.t x aF.size (Sf X G m s x aF 0 e)=some (v,m'))
  (hm:dh (dZ X G pr) D m I M) (k:rZ X G pr D m I M v m' o.dst F C K):bD X o F C I M K:=by
 have ad:∃ l,Sf X G m s x aF 0 e l=some (v,m'):=by
  cases x<;>simp only[E9]at h<;>first | cases h | exact⟨_,h⟩ | skip
  case sl=>obtain⟨a,a7,rfl⟩:=AL.sW;obtain⟨_,l,_,_,_,_,h⟩:=w0 (u:=.pointer (some ⟨a.b,a.o+_,none⟩)) hm (by simp only[aU];exact⟨a,a7,rfl⟩) h;exact⟨l,h⟩
  case sx=>obtain⟨a,a7,_,rfl⟩:=AL.vk;obtain⟨_,l,_,_,_,_,h⟩:=w0 (u:=.pointer (some ⟨a.b,a.o+_,none⟩)) hm (by simp only[aU];exact⟨a,a7,rfl⟩) h;exact⟨l,h⟩
 obtain⟨l,ad⟩:=ad;have ak:b2 (E' s) (some (s,m)) none=some (v,m'):=ad;obtain⟨ao,ak⟩:=fY ak;cases ak;obtain⟨a,n,c,rfl,m0⟩:=ami ao gs;obtain⟨lY,hu,fN⟩:=aaS vo;exact bD.PO aN aA ah aq rfl hu fN he es m0 ex (amj vo AL ae) (k D _ M bR.pe gs hm)
def aml(aN:cW X.P X.E)(ah:∀ d,o.dst=some d->d<X.n){u:Nat}(aA:o.op=.call { callee:=.builtin .append,args:=#[os,p0],argTypes:=#[t,u] })
 (aq:X.E t=some ⟨cQ,b1,yK,.slice e⟩) (hu:X.E u=some lY) (fN:∀ k,lY.bP≠.int k) (he:X.E e=some aF) {us:Value} {id off n c aG:Nat}
  (es:bH F os=.val us) (gs:aU D (.sl id off n c) us) (ex:bH F p0=.val mr) {l:List ap} {vs:List Value} (h:Rw G m id off n c l aG aF.size e=some (v,m')) (jF:n+aG<=maxLen) (iQ:(n+aG)*aF.bytes<=140737488355328)
  (ax:bO D l vs) (sN:vs.length=aG*aF.size) (aa:fK vs=true) (cS:∀ w',(Builtin.lenOf mr).run X.P w'=.ok aG w') (e8:∀ w,eM I M w->(Builtin.firstCells aF.size aG mr).run X.P w=.ok vs.toArray w)
  (hm:dh (dZ X G pr) D m I M) (k:rZ X G pr D m I M v m' o.dst F C K):bD X o F C I M K:=by
 have IR:∀ {q:List Value} {c:Nat},q.length=c*aF.size->∀ i,(dZ X G pr).E e=some i->q.length=c*i.size:=λaL i hi=>by have:X.E e=some i:=hi;rw[he]at this;cases this;exact aL
 obtain⟨a,a7,rfl⟩:=gs.sW;unfold Rw at h;by_cases af:n+aG<=c
 ·have ag:Nat.ble (Nat.add n aG) c=true:=EY af;rw[ag]at h;have bq:yF m (.p id (Nat.add off (Nat.mul n aF.size))) l (λm=>some (ap.sl id off (Nat.add n aG) c,m))=some (v,m'):=h;obtain⟨m2,ad,-,-,ak⟩:=R8 (Y:=dZ X G pr) bq;cases ad;obtain⟨g,KE,a9,post,arr,T,aI,ba,iu,qk,⟨jb,cZ,ju,kj,Ex,aw⟩,mD⟩:=ak hm (u:=.pointer (some ⟨a.b,a.o+(off+n*aF.size),none⟩)) (by simp only[aU];exact⟨a,a7,rfl⟩) ax;cases aI;refine⟨λac w Q ⟨β,aV⟩=>?_⟩;obtain⟨inf,z,hi,ft,hW,im,kb⟩:=(aN _ _ he).inf;obtain⟨d,fP,fl⟩:=(aN _ _ hu).fs;obtain⟨g3,iU,kS⟩:=(aN _ _ aq).fs;have oO:g3=.slice e:=by cases g3<;>simp_all[fr]
  subst oO;have aw:w.heap[a.b]?=some (.cells arr T (0,0)):=aV.holds.m ⟨a.b,.cells arr T (0,0)⟩ (by rw[ba];simp);have vn:=dj aV.an es;have C3:=dj aV.an ex;rw[<-ft]at e8;have fb:=aaR (P:=X.P) (w:=w) t u o.type e inf iU fP (λk cZ=>fN k (by rw[<-fl,cZ];rfl)) hi aw (zq aa) cS (e8 w aV.holds) af (off:=a.o+off) (by rw[ft];omega);rw[ft,te]at fb;have m3:=aV.xI (cs':=(cj arr.toList (a.o+(off+n*aF.size)) vs).toArray) ba;refine iN (by rw[aA];simp) ?_ ⟨_,_,_,_,⟨β,cN.put (x:=.val (.slice (some ⟨a.b,a.o+off,none⟩) (n+aG) c)) m3 ah rfl⟩,?_⟩;·unfold execOp;simp only[aA,resolve,invoke,builtin,cp,da,bZ,rm,b5,hy,vn,C3,fb]
  ·exact k D _ _ bR.pe (by simp only[aU];exact⟨a,a7,rfl⟩) mD
 ·have ag:Nat.ble (Nat.add n aG) c=false:=by
   cases ag:Nat.ble (Nat.add n aG) c with
   |false=>rfl| true=>exact absurd (bK ag) af
  rw[ag]at h;have bq:tW G m.t (.p id off) (Nat.mul n aF.size) (λdO=>vi m (dO++l) e λid m=>some (ap.sx id 0 0 (Nat.add n aG),m))=some (v,m'):=h;obtain⟨aM,dO,xs,aI,bp,e6,ad⟩:=w0 (u:=.pointer (some ⟨a.b,a.o+off,none⟩)) hm (by simp only[aU];exact⟨a,a7,rfl⟩) bq;cases aI;obtain⟨m2,cu,aD,ep⟩:=R4 (Y:=dZ X G pr) ad;cases cu;have AK:=bp;obtain⟨_,_,_,_,_,_,kg⟩:=AK;refine Sd aN ah aA aq hu fN he es ex kg sN aa cS e8 (λw hw=>run_firstCells_some (P:=X.P) w aF.size n _ n c xs kg (λj v ai=>bp.ME hw j v ai)) jF iQ (λgL=>(af gL).elim) λ_ b cap aS bA aB yL yM r0=>?_;refine k _ _ _ bR.Fq ?_ (ep aS hm aB (e6.append ax) (IR r0) yM);simp only[aU];exact⟨_,bR.p3 _ _ _,by simpa using yL,by simp⟩
def amm(aN:cW X.P X.E)(ah:∀ d,o.dst=some d->d<X.n){u:Nat}(aA:o.op=.call { callee:=.builtin .append,args:=#[os,p0],argTypes:=#[t,u] })
 (aq:X.E t=some ⟨cQ,b1,yK,.slice e⟩) (hu:X.E u=some lY) (fN:∀ k,lY.bP≠.int k) (he:X.E e=some aF) {us:Value} {id n fQ aG:Nat}
  (es:bH F os=.val us) (gs:aU D (.sx id 0 0 n) us) (ex:bH F p0=.val mr) (aw:m.t.get id=some (.cells cs e fQ)) {l:List ap} {vs:List Value} (h:Rx m id n cs fQ l aG aF.size e=some (v,m')) (jF:n+aG<=maxLen) (iQ:(n+aG)*aF.bytes<=140737488355328)
  (ax:bO D l vs) (sN:vs.length=aG*aF.size) (aa:fK vs=true) (cS:∀ w',(Builtin.lenOf mr).run X.P w'=.ok aG w') (e8:∀ w,eM I M w->(Builtin.firstCells aF.size aG mr).run X.P w=.ok vs.toArray w)
  (hm:dh (dZ X G pr) D m I M) (k:rZ X G pr D m I M v m' o.dst F C K):bD X o F C I M K:=by
 obtain⟨a,a7,bf,rfl⟩:=gs.vk;have qj:=hm.ja _ _ _ aw a7;obtain⟨arr,yN,ba,dn,ao,ae,iC⟩:=qj;unfold Rx at h;obtain⟨AH,h⟩:=fY h;have aaT:n*aF.size<=fQ:=bK AH;obtain⟨t1,ad,ak⟩:=bh.o7 (none:Option fw) m.t id;rw[ad]at h;obtain⟨cs',aK,bz⟩:=bh.yI l cs (Nat.mul n aF.size);have bq:bh.yB l cs (Nat.mul n aF.size) (λcs=>CQ (⟨t1,m.n⟩:bw) (.cells cs e (Nat.mul (Nat.add n aG) aF.size)) λid m=>some (ap.sx id 0 0 (Nat.add n aG),m))=some (v,m'):=h;rw[aK]at bq;obtain⟨t2,cu,ep⟩:=IL bq;cases ep;have jX:∀ i e9,t1.get i=some e9->i≠id/\m.t.get i=some e9:=λi e9 hi=>by
  rcases ak i e9 hi with⟨_,fa⟩ | fa;·cases fa
  ·exact fa
 have aaU:dh (dZ X G pr) D ⟨t1,m.n⟩ I M:=⟨λi e9 b hi=>hm.ja i e9 b (jX i e9 hi).2,λi gU e9 AM b jh hi cC=>hm.inj i gU e9 AM b jh (jX i e9 hi).2 (jX gU AM cC).2,hm.j4,hm.qO⟩;have aaV:arr.size=a.c*aF.size:=by have:=ae aF he;rw[yN,du]at this;exact this
 have Mp:=ax.len;have qS:((arr.toList.take (n*aF.size)).length=n*aF.size):=by rw[fO,xS];omega
 have HY:∀ j,j<n*aF.size->∀ v,cs.get j=some v->∃ x,(arr.toList.take (n*aF.size))[j]?=some x/\aU D v x:=λj ai v aj=>by obtain⟨x,bc,bi⟩:=ao j v (by omega) aj;rw[yN,du]at bc;exact⟨x,by rw[lb,bT ai];simpa using bc,bi⟩
 have aaW:∀ (bG:bR) (M':List aE) (b fp:Nat) (bl:List Value),D.le bG->(⟨b,.cells (arr.toList.take (n*aF.size)++vs++bl).toArray e (0,0)⟩:aE)∈M'->(arr.toList.take (n*aF.size)++vs++bl).length=fp*aF.size->fp<=maxLen ->
   lG bG X.E M' ⟨b,0,fp⟩ (.cells cs' e (Nat.mul (Nat.add n aG) aF.size)):=by
  intro bG M' b fp bl dx yO amn amo;have hmul:(n+aG)*aF.size=n*aF.size+aG*aF.size:=lX _ _ _;refine .cells _ rfl yO ?_ (λi v hi IN=>?_) (λi hi=>?_) amo;·show 0+(n+aG)*aF.size<=_;rw[tr,cr,cr,qS,sN];omega
  ·have cC:i<n*aF.size+aG*aF.size:=by have:i<(n+aG)*aF.size:=hi;omega
   simp only[du,BW];rcases bz i v IN with⟨bc,bi⟩ | ⟨bc,bi⟩;·have MF:n*aF.size<=i:=bc;obtain⟨x,ca,gf⟩:=ax.get (i:=i-n*aF.size) bi;refine⟨x,?_,gf.mono dx⟩;rw[dW,l3 (by omega),qS,ri (by omega)];exact ca
   ·have MF:i<n*aF.size:=by
     rcases bc with bc | bc;·exact bc
     ·have:n*aF.size+l.length<=i:=bc;omega
    obtain⟨x,ca,gf⟩:=HY i MF v bi;refine⟨x,?_,gf.mono dx⟩;rw[dW,ri (by omega)];exact ca
  ·rw[he]at hi;cases hi;simpa using amn
 refine Sd aN ah aA aq hu fN he es ex qS sN aa cS e8 (λw hw=>?_) jF iQ (λaf=>?_) λ_ b cap aS bA aB yL yM r0=>?_
 ·refine run_firstCells_some (P:=X.P) w aF.size n _ n _ _ qS λj v ai=>?_;rw[eS _ rfl,tl (hw.m _ ba)];rw[lb]at ai;split at ai
  ·rw[yN];simpa using ai
  ·cases ai
 ·
  obtain⟨a9,post,c9⟩:=vf ba;rw[Ab]at af;have iu:a.o+0+n*aF.size+vs.length<=arr.size:=by have dR:=qg aF.size af;rw[lX]at dR;rw[yN,aaV,sN];omega
  refine⟨a.b,a.o+0,e,arr,a9,post,rfl,c9,iu,?_⟩;have aaX:cj arr.toList (a.o+0+n*aF.size) vs=arr.toList.take (n*aF.size)++vs++arr.toList.drop (n*aF.size+vs.length):=by rw[yN];simp only[cj,du]
  rw[aaX];have nE:∀ q∈M,q.num≠a.b->q∈a9++(⟨a.b,.cells (arr.toList.take (n*aF.size)++vs++arr.toList.drop (n*aF.size+vs.length)).toArray e (0,0)⟩:aE)::post:=λq aL aD=>by
   rw[c9]at aL;rcases cv.1 aL with aL | aL;·exact cv.2 (.inl aL)
   ·rcases eI.1 aL with rfl | aL
    ·exact(aD rfl).elim
    ·exact cv.2 (.inr (nU _ aL))
  have IS:∀ i e9 b,t1.get i=some e9->D i=some b->b.b≠a.b:=λi e9 b hi ag C4=>(jX i e9 hi).1 (hm.inj _ _ _ _ _ _ (jX i e9 hi).2 aw ag a7 C4);refine k _ _ _ bR.Fq ?_ (aaU.step (m:=⟨t1,m.n⟩) (j:=m.n) (λi e9 hi=>(cu i e9 hi).imp (λq=>⟨q.1,pb q.2⟩) λq=>q) (D.p3 _ ⟨a.b,0,a.c⟩) (bR.AF _ hm.fresh) (λi hi=>by unfold bR.set;rw[bN hi]) (λi b ag=>?_) (λ_ _ h=>h) (λi e9 b bt hi ag q aL aD=>nE q aL (by rw[aD];exact IS i e9 b hi ag)) (aaW _ _ _ _ (arr.toList.drop (n*aF.size+vs.length)) (bR.AF _ hm.fresh) (by simp) ?_ iC) λi e9 b bt hi ag=>IS i e9 b hi ag);·simp only[aU];exact⟨_,bR.p3 _ _ _,by simpa using af,by rw[yN];rfl⟩
  ·unfold bR.set at ag;split at ag
   ·show i<m.n+1;omega
   ·have:=hm.j4 _ _ ag;show i<m.n+1;omega
  ·rw[<-aaX,R7 (by simpa using iu)];simpa using aaV
 ·
  refine k _ _ _ bR.Fq ?_ (aaU.new (m:=⟨t1,m.n⟩) (a:=⟨b,0,cap⟩) cu aB (aaW _ _ _ _ _ (bR.AF _ hm.fresh) (by simp) r0 yM));simp only[aU];exact⟨_,bR.p3 _ _ _,by simpa using yL,by simp⟩
def amp(aN:cW X.P X.E)(ah:∀ d,o.dst=some d->d<X.n){u:Nat}(aA:o.op=.call { callee:=.builtin .append,args:=#[os,p0],argTypes:=#[t,u] })
 (aq:X.E t=some ⟨cQ,b1,yK,.slice e⟩) {s x:ap} (vo:wW (X.E u) aF x=true) (he:X.E e=some aF) {aG:Nat} (ae:sV x=some aG) (ay:aG≠0) {us:Value}
  (es:bH F os=.val us) (gs:aU D s us) (ex:bH F p0=.val mr) (AL:aU D x mr) (h:E9 G m.t x aF.size (Sf X G m s x aF aG e)=some (v,m'))
  (hm:dh (dZ X G pr) D m I M) (k:rZ X G pr D m I M v m' o.dst F C K):bD X o F C I M K:=by
 obtain⟨l,vs,ad,ax,cS,e8,sN,_⟩:=ame (ut:=X.E u) h vo AL hm ae ay;have ak:b2 (Nat.beq aG 0) (b2 (E' s) (some (s,m)) none) (b2 (l.all ap.one) (Iq G m s l aG aF.size aF.bytes e) none)=some (v,m'):=ad;rw[hI ay]at ak;have aK:b2 (l.all ap.one) (Iq G m s l aG aF.size aF.bytes e) none=some (v,m'):=ak;obtain⟨qk,aK⟩:=fY aK;have aa:=ax.one qk;obtain⟨lY,hu,fN⟩:=aaS vo;have IR:∀ {q:List Value} {c:Nat},q.length=c*aF.size->∀ i,(dZ X G pr).E e=some i->q.length=c*i.size:=λaL i hi=>by have:X.E e=some i:=hi;rw[he]at this;cases this;exact aL
 cases s<;>simp only[Iq]at aK<;>first | cases aK | skip
 case sn=>
  obtain⟨ag,bz⟩:=fY aK;rw[cB]at ag;obtain⟨m2,cu,aD,ep⟩:=R4 (Y:=dZ X G pr) bz;cases cu;have mF:=gs.CW;subst mF;have jF:0+aG<=maxLen:=by rw[du];exact bK ag.2
  have iQ:(0+aG)*aF.bytes<=140737488355328:=by rw[du];exact bK ag.1
  refine Sd aN ah aA aq hu fN he (n:=0) (c:=0) (xs:=[]) es ex (by simp) sN aa cS e8 (λw _=>by simp[run_firstCells_none]) jF iQ (λaf=>by omega) λ_ b cap aS bA aB yL yM r0=>?_;refine k _ _ _ bR.Fq ?_ (ep aS hm aB ax (IR r0) yM);simp only[aU];exact⟨_,bR.p3 _ _ _,by simpa using yL,by simp⟩
 case sl=>
  obtain⟨ag,bz⟩:=fY aK;rw[cB]at ag;exact aml aN ah aA aq hu fN he es gs ex bz (bK ag.2) (bK ag.1) ax sN aa cS e8 hm k
 case sx=>
  split at aK;·rename_i aw;obtain⟨ag,bz⟩:=fY aK;simp only[cB]at ag;obtain⟨⟨fF,fz⟩,l6,LI,LJ⟩:=ag;have d1:=ed fF;have d2:=ed fz;have d3:=ed l6;subst d1;subst d2;subst d3;exact amm aN ah aA aq hu fN he es gs ex aw bz (bK LJ) (bK LI) ax sN aa cS e8 hm k
  ·cases aK
def amq(aN:cW X.P X.E)(ah:∀ d,o.dst=some d->d<X.n){args:Array Operand}(aA:o.op=.call { callee:=.builtin .append,args:=args,argTypes:=dC })(h:RA (dZ X G pr) m dC.toList (oe an args.toList)=some (v,m'))
  (H:jx D F an args.toList) (hm:dh (dZ X G pr) D m I M) (k:rZ X G pr D m I M v m' o.dst F C K):bD X o F C I M K:=by
 unfold RA at h;split at h
 ·rename_i t u s x aq ax;split at h
  ·rename_i sa sX sz e oK;obtain⟨aF,he,h⟩:=ct h;obtain⟨vo,h⟩:=fY h;obtain⟨os,p0,nb,gg,C0⟩:=MD ax;obtain⟨us,es,gs⟩:=H.bH (x:=os) (by rw[nb];simp) gg;obtain⟨mr,ex,AL⟩:=H.bH (x:=p0) (by rw[nb];simp) C0;have C1:args=#[os,p0]:=by apply gX;simpa using nb
   have C2:dC=#[t,u]:=by apply gX;simpa using aq
   have ry:o.op=.call { callee:=.builtin .append,args:=#[os,p0],argTypes:=#[t,u] }:=by rw[aA,C1,C2]
   cases ae:sV x with
   |none=>
    exfalso;unfold wW at vo;split at vo<;>first | (cases vo;done) | (simp[sV,wV]at ae;done)
   |some aG=>
    rw[ae]at h;by_cases ay:aG=0;·subst ay;exact amk aN ah ry oK vo he ae es gs ex AL h hm k
    ·exact amp aN ah ry oK vo he ae ay es gs ex AL h hm k
  ·cases h
 ·cases h
end
section
variable{X:c3}{β:Nat->Nat}{F:Fr}{C:dN}{I:aH}{M:List aE}{o:Oper}{K:gl}
def Sg(aN:cW P E)(aq:E t=some db)(dk:db.bP=.slice e):P.underlying t=some (.slice e):=by
 obtain⟨g3,iU,kS⟩:=(aN _ _ aq).fs;have oO:g3=.slice e:=by rw[dk]at kS;cases g3<;>simp_all[fr]
 rw[iU,oO]
def fT.Sh(aN:cW P E){y:Operand}(aq:E t=some db)(dk:db.bP=.slice e){c c':Nat}{V:Value->Prop}{other:Prop}
  (h:V (.bool a.isNone)):fT P .eql t x y (.val (.slice a n c)) (.val (.slice none gw c')) V other:=by
 have aa:=Sg aN aq dk;refine .mk _ _ _ rfl rfl (λw=>?_) h;have aI:(eqGuard .eql t x y (.slice a n c) (.slice none gw c')).run P w=.ok () w:=by unfold eqGuard;rfl
 simp only[cp,aI,bZ];exact Lib.run_eql_slice_nil w t e a n c gw c' aa
def bD.slice3(aN:cW X.P X.E)(aA:o.op=.slice t x (some lo) (some hi) (some mx))(ah:∀ d,o.dst=some d->d<X.n)
 (aq:X.E t=some db) (dk:db.bP=.slice e) (he:X.E e=some aF) {aM:Option Addr} {c:Nat} (l h m:Nat) {eT:IntKind}
  (ab:bH F x=.val (.slice aM n c)) (e6:bH F lo=.val (.int eT (l:Nat))) (gB:bH F hi=.val (.int c4 (h:Nat))) (iC:bH F mx=.val (.int hM (m:Nat)))
  (aa:l<=h) (ad:h<=m) (ak:m<=c) (k:K (put o.dst (.val (.slice (if m=l then aM else aM.map (·.add (l*aF.size))) (h-l) (m-l))) F) C I M):bD X o F C I M K:=by
 refine⟨λa w Q ⟨β,aV⟩=>?_⟩;have hu:=Sg aN aq dk;refine iN (by rw[aA];simp) (v:=.slice (if m=l then aM else aM.map (·.add (l*aF.size))) (h-l) (m-l)) (w':=w) ?_ ⟨_,_,_,_,⟨β,cN.put (x:=.val (.slice (if m=l then aM else aM.map (·.add (l*aF.size))) (h-l) (m-l))) aV ah rfl⟩,k⟩;have ex:=dj aV.an ab;have aI:=dj aV.an e6;have a6:=dj aV.an gB;have cq:=dj aV.an iC;simp only[execOp,aA,Instr.sliceAt,Instr.slice,Instr.sliceBounds,Instr.sliceBound,ex,cp,run_underlying hu,bZ,(aN _ _ he).run_sizeOf,da,lg,uA,aI,a6,cq,oE];rw[bT ⟨by omega,by omega⟩];simp only[da,bZ,hH];rw[bT ⟨by omega,by omega⟩];simp only[da,bZ,hH];rw[bT ⟨by omega,by omega⟩];simp
end
section
variable{X:c3}{G:GT}{pr:mb}{D:bR}{m m':bw}{F:Fr}{an:bh ap}{C:dN}{I:aH}{M:List aE}{K:gl}{o:Oper}{v:ap}
def amr(aN:cW X.P X.E)(ah:∀ d,o.dst=some d->d<X.n){args:Array Operand}(aA:o.op=.call { callee:=.builtin .unsafeString,args:=args,argTypes:=dC })(h:RC (dZ X G pr) m dC.toList (oe an args.toList)=some (v,m'))
  (H:jx D F an args.toList) (hm:dh (dZ X G pr) D m I M) (k:rZ X G pr D m I M v m' o.dst F C K):bD X o F C I M K:=by
 unfold RC at h;split at h
 ·rename_i uN it aq ax;cases h;obtain⟨op,on,nb,aa,ad⟩:=MD ax;obtain⟨nf,aI,bc⟩:=H.bH (x:=op) (by rw[nb];simp) aa;obtain⟨kC,a6,bi⟩:=H.bH (x:=on) (by rw[nb];simp) ad;have C1:args=#[op,on]:=by apply gX;simpa using nb
  have C2:dC=#[uN,it]:=by apply gX;simpa using aq
  have MF:nf=.pointer none:=by simpa only[aU]using bc
  subst MF;rw[bi.int]at a6;refine bD.WL (by rw[aA,C1,C2]) ah aI a6 (k D _ M bR.pe ?_ hm);simp only[aU];rfl
 ·rename_i uN it id n aq ax;split at h
  ·rename_i sa sX sz e cs T fQ ams aw;obtain⟨aF,he,ep⟩:=ct h;obtain⟨ag,fa⟩:=fY ep;simp only[cB]at ag;obtain⟨op,on,nb,aa,ad⟩:=MD ax;obtain⟨nf,aI,bc⟩:=H.bH (x:=op) (by rw[nb];simp) aa;obtain⟨kC,a6,bi⟩:=H.bH (x:=on) (by rw[nb];simp) ad;have C1:args=#[op,on]:=by apply gX;simpa using nb
   have C2:dC=#[uN,it]:=by apply gX;simpa using aq
   rw[bi.int]at a6;obtain⟨a,a7,rfl⟩:=bc.ptr;have qj:=hm.ja _ _ _ aw a7;obtain⟨arr,yN,ba,dn,ao,ae,iC⟩:=qj;have IR:=ed ag.2.1;subst IR;unfold tW at fa;simp only[aw]at fa;cases Si:Nat.ble (Nat.add 0 n) fQ with
   |false=>rw[Si]at fa;cases fa| true=>
   rw[Si]at fa;simp only[cF]at fa;have oL:0+n<=fQ:=bK Si;obtain⟨l,fF,fz,dR⟩:=bh.Fg cs n 0 _ _ fa;obtain⟨cz,Eo,qB⟩:=ct dR;obtain⟨Pu,Sj⟩:=fY qB;obtain⟨t1,aK,bz⟩:=bh.o7 (none:Option fw) m.t id;rw[aK]at Sj;cases Sj;have z6:(arr.toList.take n).length=n:=by rw[fO,xS];omega
   have Fv:bO D l (arr.toList.take n):=bO.IA (by rw[z6,fF]) λi v hi=>by
    have ei:i<n:=by rw[<-fF];exact(hG.1 hi).1
    obtain⟨x,ca,gf⟩:=ao i v (by omega) (by have:=fz i ei;rw[du]at this;rw[this,hi]);rw[yN,du]at ca;exact⟨x,by rw[lb,bT ei];simpa using ca,gf⟩
   have iO:=aaG Eo Fv;have kR:cz.length=n:=by have:=congrArg List.length iO;rw[z6]at this;simpa using this.symm
   obtain⟨a9,post,c9⟩:=vf ba;have mE:M.Perm (⟨a.b,.cells arr T (0,0)⟩::(a9++post)):=by rw[c9];exact na
   have kr:arr.toList.take cz.length=cz.map λb=>Value.int .u8 b.toNat:=by rw[kR];exact iO
   have ay:cz≠[]:=λcZ=>by subst cZ;have:0<n:=bK ag.2.2;simp at kR;omega
   have ez:bH F op=.val (.pointer (some ⟨a.b,0,none⟩)):=by rw[aI,yN]
   have ra:bH F on=.val (.int .i64 cz.length):=by rw[a6,kR];rfl
   refine bD.Pt aN (by rw[aA,C1,C2]) ah ams rfl he (ed ag.1) ez ra ay (by rw[kR];exact bK Pu) mE kr ?_;have jX:∀ i e9,t1.get i=some e9->i≠id/\m.t.get i=some e9:=λi e9 hi=>by
    rcases bz i e9 hi with⟨_,fa⟩ | fa;·cases fa
    ·exact fa
   refine k D _ _ bR.pe (by simp only[aU]) ⟨λi e9 b hi jF=>?_,λi gU e9 AM b jh hi cC=>hm.inj i gU e9 AM b jh (jX i e9 hi).2 (jX gU AM cC).2,hm.j4,hm.qO⟩;refine(hm.ja i e9 b (jX i e9 hi).2 jF).mono (bR.le_refl D) λq aL aD=>?_;rcases eI.1 (mE.mem_iff.1 aL)with rfl | aL;·exact((jX i e9 hi).1 (hm.inj _ _ _ _ _ _ (jX i e9 hi).2 aw jF a7 aD.symm)).elim
   ·exact aL
  ·cases h
 ·cases h
def amt(aN:cW X.P X.E)(ah:∀ d,o.dst=some d->d<X.n){v:ap}(aA:o.op=.slice t x (some lo) (some hi) (some mx))(h:Rt X.E t (dw an x) (dw an lo) (dw an hi) (dw an mx)=some v)
  (H:jx D F an o.op.operands.toList) (hm:dh (dZ X G pr) D m I M) (k:∀ x,gx D x v->K (put o.dst x F) C I M):bD X o F C I M K:=by
 unfold Rt at h;split at h
 ·rename_i sz hS z e id off n c eT l c4 bq hM gk aq ab e6 gB iC;obtain⟨aF,he,ep⟩:=ct h;obtain⟨ag,fa⟩:=fY ep;simp only[cB]at ag;obtain⟨b1,b8,ev,gR⟩:=ag;cases fa;have b1:=bK b1;have b8:=bK b8;have ev:=bK ev;have gR:l+1<=gk:=bK gR;obtain⟨CC,dy,AN⟩:=H.bH (x:=x) (by rw[aA];simp[Op.operands]) ab;obtain⟨nf,aI,bc⟩:=H.bH (x:=lo) (by rw[aA];simp[Op.operands]) e6;obtain⟨kC,a6,bi⟩:=H.bH (x:=hi) (by rw[aA];simp[Op.operands]) gB;obtain⟨Ft,cq,ca⟩:=H.bH (x:=mx) (by rw[aA];simp[Op.operands]) iC;rw[bc.int]at aI;rw[bi.int]at a6;rw[ca.int]at cq;simp only[aU]at AN;obtain⟨a,a7,rfl⟩:=AN;refine bD.slice3 aN aA ah aq rfl he l bq gk dy aI a6 cq b1 b8 ev (k _ (.val ?_));simp only[aU];refine⟨a,a7,?_⟩;rw[bN (by omega),lg,eS _ rfl];simp only[At,EZ,E0,te]
 ·cases h
def aaY{sz hS:Nat}{z:List Value}{n c h m:Nat}(aA:o.op=.slice t x none (some hi) (some mx))(aq:X.E t=some ⟨sz,hS,z,.slice e⟩)(he:X.E e=some aF)
  (ab:bH F x=.val (.slice a n c)) (cG:bH F hi=.val (.int c4 (h:Nat))) (hm:bH F mx=.val (.int hM (m:Nat))) (aa:h<=m) (ad:m<=c) (k:K (put o.dst (.val (.slice (if m=0 then a else a.map (·.add (0*aF.size))) (h-0) (m-0))) F) C I M):gZ X o F C I M K:=by
 obtain⟨dst,C5,ty,pos,after,guard⟩:=o;simp only at aA;subst aA;have aI:dE (dq F) x=.val (.slice a n c):=ab;have a6:dE (dq F) hi=.val (.int c4 (h:Nat)):=cG;have cq:dE (dq F) mx=.val (.int hM (m:Nat)):=hm;simp only[gZ,cK,aq,he,aI,a6,cq,uA,lg];exact⟨h,m,rfl,rfl,aa,ad,k⟩
def amu(aN:cW X.P X.E)(ah:∀ d,o.dst=some d->d<X.n){v:ap}(aA:o.op=.slice t x none (some hi) (some mx))(h:Rs X.E t (dw an x) (dw an hi) (dw an mx)=some v)
  (H:jx D F an o.op.operands.toList) (hm:dh (dZ X G pr) D m I M) (k:∀ x,gx D x v->K (put o.dst x F) C I M):gZ X o F C I M K:=by
 unfold Rs at h;split at h
 ·rename_i sz hS z e id off n c c4 bq hM gk aq ab gB iC;obtain⟨aF,he,ep⟩:=ct h;obtain⟨ag,fa⟩:=fY ep;simp only[cB]at ag;obtain⟨b8,ev,gR⟩:=ag;cases fa;have b8:=bK b8;have ev:=bK ev;have gR:0+1<=gk:=bK gR;obtain⟨CC,dy,AN⟩:=H.bH (x:=x) (by rw[aA];simp[Op.operands]) ab;obtain⟨kC,a6,bi⟩:=H.bH (x:=hi) (by rw[aA];simp[Op.operands]) gB;obtain⟨Ft,cq,ca⟩:=H.bH (x:=mx) (by rw[aA];simp[Op.operands]) iC;rw[bi.int]at a6;rw[ca.int]at cq;simp only[aU]at AN;obtain⟨a,a7,rfl⟩:=AN;refine aaY aA aq he dy a6 cq b8 ev (k _ (.val ?_));simp only[aU];refine⟨a,a7,?_⟩;rw[bN (by omega),lg,eS _ rfl];simp
 ·rename_i sz hS z e id off a6 n c4 bq hM gk aq ab gB iC;obtain⟨aF,he,ep⟩:=ct h;obtain⟨ag,fa⟩:=fY ep;simp only[cB]at ag;obtain⟨b8,ev,gR⟩:=ag;cases fa;have b8:=bK b8;have ev:=bK ev;have gR:0+1<=gk:=bK gR;obtain⟨CC,dy,AN⟩:=H.bH (x:=x) (by rw[aA];simp[Op.operands]) ab;obtain⟨kC,a6,bi⟩:=H.bH (x:=hi) (by rw[aA];simp[Op.operands]) gB;obtain⟨Ft,cq,ca⟩:=H.bH (x:=mx) (by rw[aA];simp[Op.operands]) iC;rw[bi.int]at a6;rw[ca.int]at cq;simp only[aU]at AN;obtain⟨a,a7,bf,rfl⟩:=AN;refine aaY aA aq he dy a6 cq b8 (by omega) (k _ (.val ?_));simp only[aU];refine⟨a,a7,?_⟩;rw[bN (by omega),lg,eS _ rfl];simp
 ·cases h
def amv(ah:∀ d,o.dst=some d->d<X.n){v:ap}(aA:o.op=.unOp .xor t x)(h:Ru (dw an x)=some v)(H:jx D F an o.op.operands.toList)(k:∀ x,gx D x v->K (put o.dst x F) C I M):gZ X o F C I M K:=by
 unfold Ru at h;split at h
 ·rename_i n ab;cases h;obtain⟨u,e,hu⟩:=H.bH (x:=x) (by rw[aA];simp[Op.operands]) ab;rw[hu.int]at e;have q:bD X o F C I M K:=bD.Hu aA ah e (k _ (.val (by simp only[aU])));obtain⟨dst,C5,ty,pos,after,guard⟩:=o;simp only at aA;subst aA;exact q
 ·cases h
def amw(aA:o.op=.slice t x (some lo) (some hi) (some mx))(k:bD X o F C I M K):gZ X o F C I M K:=by
 obtain⟨dst,C5,ty,pos,after,guard⟩:=o;simp only at aA;subst aA;simp only[gZ,cK];split
 ·rename_i e;cases e
 ·rename_i e;cases e
 ·split
  ·rename_i e _;cases e
  ·exact k
 ·exact k
def aaZ:Op->Bool
 | .makeMap .. | .lookup .. | .mapUpdate .. | .insert ..=>true| .call { callee:=.builtin .append,.. }=>true| .call { callee:=.builtin .copy,.. }=>true| .call { callee:=.builtin .unsafeString,.. }=>true| _=>false
def AO(aA:o.op=op)(h:aaZ op=true)(k:bD X o F C I M K):gZ X o F C I M K:=by
 obtain⟨dst,C5,ty,pos,after,guard⟩:=o;simp only at aA;subst aA;unfold aaZ at h;split at h<;>first | exact k | cases h
def amx(aN:cW X.P X.E)(ah:∀ d,o.dst=some d->d<X.n)(h:RD (dZ X G pr) m o an=some (v,m'))(H:jx D F an o.op.operands.toList)(hm:dh (dZ X G pr) D m I M)(k:rZ X G pr D m I M v m' o.dst F C K):gZ X o F C I M K:=by
 unfold RD at h;split at h
 ·rename_i t x y aA;exact al5 aA h H hm k
 ·rename_i t aA;exact AO aA rfl (aaM aN ah aA h (by simp) hm k)
 ·rename_i t x aA;split at h
  ·rename_i gk n ab;refine AO aA rfl (aaM aN ah aA h (λy aC=>?_) hm k);cases aC;obtain⟨u,aI,bc⟩:=H.bH (x:=x) (by rw[aA];simp[Op.operands]) ab;rw[bc.int]at aI;exact⟨_,_,aI⟩
  ·cases h
 ·rename_i t x y ok aA;exact AO aA rfl (al7 aN ah aA h H hm k)
 ·rename_i t x y z aA;exact AO aA rfl (aaO aN (.inl aA) h H hm k)
 ·rename_i t x y z aA;exact AO aA rfl (aaO aN (.inr aA) h H hm k)
 ·rename_i s d x aA;have MG:=al9 aN ah aA h H hm k;obtain⟨dst,C5,ty,pos,after,guard⟩:=o;simp only at aA;subst aA;have sL:∃ a b z,X.E d=some ⟨a,b,z,.string⟩:=by
   unfold Mg at h;split at h;·exact⟨_,_,_,by assumption⟩
   ·exact⟨_,_,_,by assumption⟩
   ·exact⟨_,_,_,by assumption⟩
   ·cases h
  obtain⟨a,b,z,sL⟩:=sL;simp only[gZ,cK,sL];split;·rename_i e _;cases e
  ·exact MG
 ·rename_i b args dC aA;have C6:jx D F an args.toList:=by rw[aA]at H;simpa[Op.operands,Call.operands]using H
  unfold ZV at h;split at h;·exact AO aA rfl (amq aN ah aA h C6 hm k)
  ·exact AO aA rfl (ama aN ah aA h C6 hm k)
  ·exact AO aA rfl (amr aN ah aA h C6 hm k)
  ·cases h
 ·cases h
end
def IT(Y:gS)(call:ap->List ap->bw->Option (ap×bw)):Prop:=∀ f l m v m',call f l m=some (v,m')->∀ (D:bR) (I:aH) (M:List aE) (u:Value) (us:List Value),aU D f u->bO D l us->dh Y D m I M -> (∃ g cV cs,u=.func (.func g) cV cs/\Spec Y.P g (cV.toList++us++cs.toList) I M λr I' M'=>∃ bG,D.ext bG m.n/\aU bG v r/\dh Y bG m' I' M') \/ ∃ q,u=.func (.yield q) #[] #[]/\D' Y.P q us I M λr I' M'=>∃ bG,D.ext bG m.n/\aU bG v r/\dh Y bG m' I' M'
def vp(dst:Option Nat)(v:ap)(D:bR)(F dc:Fr):Prop:=(∀ d,dst=some d->gx D (dc d) v)/\∀ (D:bR) t vm,dst≠some t->gx D (F t) vm->gx D (dc t) vm
def vp.put{v:ap}{x:dH}(F:Fr)(h:gx D x v):vp dst v D F (put dst x F):=by
 constructor
 ·rintro d rfl;simpa[Go.V.put,gY]using h
 ·intro D t vm bt h;cases dst with
  |none=>exact h| some d=>have:t≠d:=λe=>bt (by rw[e]);simp only[Go.V.put,gY,hI this,cE];exact h
def AG.v(h:AG dst u F dc){v:ap}(aj:aU D v u):vp dst v D F dc:=⟨λd ah=>by rw[h.1 d ah];exact .val aj,h.2⟩
section
variable{X:c3}{G:GT}{pr:mb}{D:bR}{m m':bw}{F:Fr}{an:bh ap}{C:dN}{I:aH}{M:List aE}{K:gl}{o:Oper}{v:ap}
def MH(X:c3)(G:GT)(pr:mb)(o:Oper)(an:bh ap)(m:bw)(v:ap)(m':bw):Prop:=m.n<=m'.n/\∀ (D:bR) (F:Fr) (C:dN) (I:aH) (M:List aE) (K:gl),jx D F an o.op.operands.toList->dh (dZ X G pr) D m I M -> (∀ bG dc C' I' M',D.ext bG m.n->vp o.dst v bG F dc->dh (dZ X G pr) bG m' I' M'->K dc C' I' M')->gZ X o F C I M K
def amy(aA:o.op=op)(ae:lD X.E op=0)(h:cK X op (dq F) C I M (λx=>K (put o.dst x F) C I M) (bD X o F C I M K)):gZ X o F C I M K:=by
 obtain⟨dst,C5,ty,pos,after,guard⟩:=o;simp only at aA;subst aA;cases C5 with
 |call c=>
  obtain⟨callee,args,dC⟩:=c;cases callee with
  |value f=>simp[lD]at ae| invoke r n=>exact h| builtin b=>exact h
 |alloc t=>simp[lD]at ae| box t x=>simp[lD]at ae| store t x y=>simp[lD]at ae| buildSlice t l ps=>simp[lD]at ae| makeSlice t l c=>simp[lD]at ae| _=>exact h
def aa0(aN:cW X.P X.E)(ah:∀ d,o.dst=some d->d<X.n){v:ap}(ae:lD X.E o.op=0)(h:vh X.P X.E G m.t o.op an=some v)(H:jx D F an o.op.operands.toList)(hm:dh (dZ X G pr) D m I M)
  (k:∀ x,gx D x v->K (put o.dst x F) C I M):gZ X o F C I M K:=by
 unfold vh at h;split at h
 ·rename_i t x aA;exact amv ah aA h H k
 ·rename_i t x lo hi mx aA;exact amw aA (amt aN ah aA h H hm k)
 ·rename_i t x hi mx aA;exact amu aN ah aA h H hm k
 ·exact amy rfl ae (alT aN h H hm k)
def Sk{K:bh ap->Option R}{r:R}(h:p1 dst an v K=some r):∃ df,K df=some r/\(dst=none->df=an)/\∀ d,dst=some d->∀ t w,df.get t=some w->(t=d/\w=v)\/(t≠d/\an.get t=some w):=by
 unfold p1 at h;cases dst with
 |none=>exact⟨an,h,λ_=>rfl,λd ah=>by cases ah⟩
 |some d=>
  have bq:(Rv v λv=>an.nV (some v) d K)=some r:=h;rw[ak3]at bq;obtain⟨df,aa,ad⟩:=bh.o7 (some v) an d;rw[aa]at bq;refine⟨df,bq,(λe=>by cases e),λd' ah t w hw=>?_⟩;cases ah;rcases ad t w hw with⟨aI,a6⟩ | ⟨aI,a6⟩;·exact .inl ⟨aI,(pb a6).symm⟩
  ·exact .inr ⟨aI,a6⟩
def aa1(aN:cW X.P X.E)(kp:∀ d,d<X.n->X.gC.contains d=true)(ah:∀ d,o.dst=some d->d<X.n)(mZ:IT (dZ X G pr) call){K:bh ap->bw->Option R}{r:R}
  (h:Aw (dZ X G pr) call o an m K=some r):∃ v m' df,MH X G pr o an m v m'/\(p1 o.dst an v λan=>K an m')=some r/\K df m'=some r/\(o.dst=none->df=an)/\∀ d,o.dst=some d->∀ t w,df.get t=some w->(t=d/\w=v)\/(t≠d/\an.get t=some w):=by
 have fin:∀ {v:ap} {m':bw},MH X G pr o an m v m'->(p1 o.dst an v λan=>K an m')=some r->∃ v m' df,MH X G pr o an m v m'/\(p1 o.dst an v λan=>K an m')=some r/\K df m'=some r/\(o.dst=none->df=an)/\∀ d,o.dst=some d->∀ t w,df.get t=some w->(t=d/\w=v)\/(t≠d/\an.get t=some w):=fun {v m'} ao aJ=>by obtain⟨df,aa,ad,ak⟩:=Sk aJ;exact⟨v,m',df,ao,aJ,aa,ad,ak⟩
 unfold Aw at h;split at h
 ·
  rename_i f args dC aA;unfold ZW at h;obtain⟨amz,aB,h⟩:=ct h;obtain⟨l,ax,h⟩:=ct h;obtain⟨⟨v,m'⟩,ao,h⟩:=ct h;obtain⟨aD,h⟩:=fY h;refine fin ⟨bK aD,λD F C I M K sY hm ae=>?_⟩ h;rw[aA]at sY;obtain⟨u,aI,bc⟩:=sY.bH (x:=f) (by simp[Op.operands,Call.operands]) aB;obtain⟨us,a6,bi⟩:=sY.mQ (l:=args.toList) (by intro y aC;simp[Op.operands,Call.operands];exact .inr (by simpa using aC)) ax;obtain⟨dst,C5,ty,pos,after,guard⟩:=o;simp only at aA;subst aA;rcases mZ _ _ _ _ _ ao D I M u us bc bi hm with⟨g,cV,cs,rfl,av⟩ | ⟨q,rfl,av⟩
  ·simp only[gZ,aI,a6];exact a8.whole _ av λr I' M' bA ab=>by obtain⟨bG,aa,ad,ak⟩:=ab;exact ae bG _ C I' M' aa (.put F (.val ad)) ak
  ·simp only[gZ,aI,a6];refine bD.yield rfl ah aI a6 ⟨M,[],_,by simp,av,λr I' M' bA ab=>?_⟩;obtain⟨bG,aa,ad,ak⟩:=ab;rw[dF];exact ae bG _ C I' M' aa (.put F (.val ad)) ak
 ·rename_i op eK;unfold Z0 at h;split at h
  ·rename_i lx;unfold ZY at h;obtain⟨v,aj,h⟩:=ct h;refine fin ⟨b' _,λD F C I M K sY hm ae=>?_⟩ h;exact aa0 aN ah lx aj sY hm λx ab=>ae D _ C I M bR.pe (.put F ab) hm
  ·unfold ZX at h;obtain⟨d,fl,h⟩:=ct h;obtain⟨⟨l,T,c,mk⟩,a7,h⟩:=ct h;obtain⟨m2,ad,aD,ak⟩:=R4 (Y:=dZ X G pr) h;refine fin (v:=mk m.n) (m':=m2) ⟨by omega,λD F C I M K sY hm ae=>?_⟩ (by rw[fl];exact ad);refine aaC aN kp ah a7 (by rw[fl];rfl) sY λb vs u dc C' bA aB iO cS ao hu Sl=>?_;have aK:=ak (vs:=vs) [] (b:=b) (c:=c) hm aB iO (by simpa using cS) ao;rw[dF]at aK;exact ae _ dc C' I _ bR.Fq (Sl.v (hu _ _ (bR.p3 _ _ _))) aK
  ·unfold ZZ at h;obtain⟨⟨v,m'⟩,ab,h⟩:=ct h;obtain⟨aD,h⟩:=fY h;refine fin ⟨bK aD,λD F C I M K sY hm ae=>?_⟩ h;exact amx aN ah ab sY hm λbG u M' aa ad ak=>ae bG _ C I M' aa (.put F (.val ad)) ak
end
def lH(X:c3)(G:GT)(pr:mb)(D0:bR)(n0:Nat)(an:bh ap)(m:bw)(a:Act)(w:World):Prop:=
 ∃ D F C I M,Rel X a w F C I M/\qP D F an/\dh (dZ X G pr) D m I M/\D0.ext D n0/\n0<=m.n
section
variable{X:c3}{G:GT}{pr:mb}{D0:bR}{n0:Nat}{m m':bw}{an df:bh ap}{a:Act}{w:World}
def bR.aa2{IK:bR}(h:D.ext bG n)(bq:bG.ext IK gw)(aD:n<=gw):D.ext IK n:=λi hi=>by rw[bq i (by omega),h i hi]
def amA{ops:Array Oper}{o:Oper}(h:vj ops.toList o an=some b)(bE:∀ t,e4 β (F t) (a.tmps.getD t undef))(xH:qP D F an):Region.wanted o (yielded ops a.tmps)=b:=by
 unfold vj at h;split at h
 ·rename_i aw;cases h;simp[Region.wanted,aw]
 ·rename_i j c aw;split at h
  ·cases h
  ·rename_i d ai;have jS:(ops[j]?).bind (·.dst)=some d:=by rw[AB]at ai;simpa using ai
   have aC:=GI jS a.tmps;split at h
   ·rename_i q aL;cases h;have av:=xH _ _ aL;have aj:a.tmps.getD d undef=.bool q:=by
     have aa:=bE d;rcases av with⟨u,e,hu⟩ | ⟨gb,cZ,e⟩;·rw[e]at aa;rw[aa,hu.bool]
     ·cases cZ;rw[e]at aa;exact aa
    simp[Region.wanted,aw,aC,D1 aj]
   ·rename_i l aL;cases h;have av:=xH _ _ aL;obtain⟨u,e,hu⟩:=av.wZ (by simp);obtain⟨vs,_,rfl⟩:=hu.RS;have aa:=bE d;rw[e]at aa;have sq:yielded ops a.tmps j=none:=by
     rw[aC];cases jU:a.tmps[d]? with
     |none=>rfl| some v=>simp only[e4,pz,jU,kL]at aa;subst aa;rfl
    simp[Region.wanted,aw,sq]
   ·cases h
def aa3{o:Oper}{K:bh ap->Option R}{r:R}(h:CT o an K=some r):∃ df,K df=some r/\(o.dst=none->df=an)/\∀ d,o.dst=some d->∀ t w,df.get t=some w->(t=d/\w=.t [])\/(t≠d/\an.get t=some w):=by
 unfold CT at h;cases ah:o.dst with
 |none=>rw[ah]at h;exact⟨an,h,λ_=>rfl,λd e=>by cases e⟩
 |some d=>
  rw[ah]at h;obtain⟨df,aa,ad⟩:=bh.o7 (some (ap.t [])) an d;simp only[aa]at h;refine⟨df,h,(λe=>by cases e),λd' fE t w hw=>?_⟩;cases fE;rcases ad t w hw with⟨aI,a6⟩ | ⟨aI,a6⟩;·exact .inl ⟨aI,(pb a6).symm⟩
  ·exact .inr ⟨aI,a6⟩
def qP.step{v:ap}(h:qP D F an)(bf:D.le bG)(aJ:vp dst v bG F dc)(aa:dst=none->df=an)(ad:∀ d,dst=some d->∀ t w,df.get t=some w->(t=d/\w=v)\/(t≠d/\an.get t=some w)):qP bG dc df:=λt u aq=>by
 cases ah:dst with
 |none=>rw[aa ah]at aq;exact aJ.2 bG t u (by rw[ah];simp) ((h t u aq).mono bf)
 |some d=>
  rcases ad d ah t u aq with⟨rfl,rfl⟩ | ⟨bt,aw⟩;·exact aJ.1 _ ah
  ·exact aJ.2 bG t u (by rw[ah];intro e;cases e;exact bt rfl) ((h t u aw).mono bf)
def Sm(aN:cW X.P X.E)(kp:∀ d,d<X.n->X.gC.contains d=true){call:ap->List ap->bw->Option (ap×bw)}(mZ:IT (dZ X G pr) call)(ops:Array Oper)(Q:Exit->Act->World->Prop)(kM:∀ a w,lH X G pr D0 n0 df m' a w->Q .normal a w):∀ (l:List Oper) (k:Nat),(∀ j,l[j]?=ops[k+j]?)->(∀ o∈l,∀ d,o.dst=some d->d<X.n)->∀ {an m a w},Fa (dZ X G pr) call ops.toList l an m=some (df,m') -> lH X G pr D0 n0 an m a w->wpOpsIn (g8 X) 0 X.P ops Q (List.range' k l.length) a w
 |[],k,_,_,an,m,a,w,h,av=>by have bq:some (an,m)=some (df,m'):=h;cases bq;exact kM _ _ av
 |o::bl,k,ax,ah,an,m,a,w,h,av=>by
  have ay:ops[k]?=some o:=by simpa using(ax 0).symm
  have ql:∀ j,bl[j]?=ops[k+1+j]?:=λj=>by have:=ax (j+1);simpa[te,GA 1 j]using this
  have fE:∀ o∈bl,∀ d,o.dst=some d->d<X.n:=λo aA=>ah o (by simp[aA]);have zt:=ah o (by simp);have bq:bu (vj ops.toList o an) none (λw=>b2 w (Aw (dZ X G pr) call o an m λan m=>Fa (dZ X G pr) call ops.toList bl an m) (CT o an λan=>Fa (dZ X G pr) call ops.toList bl an m))=some (df,m'):=h;obtain⟨b,ag,bq⟩:=ct bq;obtain⟨D,F,C,I,M,⟨β,aV⟩,bE,hm,ab,aD⟩:=av;have hw:=amA ag aV.an bE;simp only[et,OL,wpOpsIn,ay];rw[hw];cases b with
  |true=>have ad:Aw (dZ X G pr) call o an m (λan m=>Fa (dZ X G pr) call ops.toList bl an m)=some (df,m'):=bq;obtain⟨v,c1,fJ,⟨IU,IV⟩,-,ak,bc,bi⟩:=aa1 aN kp zt mZ ad;simp only[sj];refine td (λbL w'=>?_) (DZ aN zt ⟨β,aV⟩ (IV D F C I M (λdc C' I' M'=>∃ bG,D.ext bG m.n/\qP bG dc fJ/\dh (dZ X G pr) bG c1 I' M') (bE.op _) hm λbG dc C' I' M' aI a6 cq=>⟨bG,aI,bE.step (hm.le aI) a6 bc bi,cq⟩));rintro⟨dc,C',I',M',gL,bG,aI,a6,cq⟩;exact Sm aN kp mZ ops Q kM bl (k+1) ql fE ak ⟨bG,dc,C',I',M',gL,a6,cq,bR.aa2 ab aI aD,jg aD IU⟩
  |false=>have ad:CT o an (λan=>Fa (dZ X G pr) call ops.toList bl an m)=some (df,m'):=bq;obtain⟨fJ,ak,bc,bi⟩:=aa3 ad;simp only[ld,mj];refine⟨λ_ _=>trivial,Sm aN kp mZ ops Q kM bl (k+1) ql fE ak ⟨D,put o.dst (.val undef) F,C,I,M,⟨β,aV.put (x:=.val undef) zt rfl⟩,bE.step (bR.le_refl D) (.put F (.val .undef)) bc bi,hm,ab,aD⟩⟩
end
def amB(aZ:∀ j e,mV ops j e->e<j)(J:(Nat->Prop)->Act->World->Prop)(step:∀ (L:Nat->Prop) a w q o,J L a w->B1 ops L->(∀ i,L i->i<ops.length)->ops[q]?=some o->¬ L q->(∀ e,mV ops q e->L e) -> (Region.wanted o (yielded ops.toArray a.tmps)=true->o.wpIn (g8 X) 0 X.P a w (J λj=>L j\/j=q) Q)/\(Region.wanted o (yielded ops.toArray a.tmps)=false->J (λj=>L j\/j=q) (a.put o.dst undef) w))
  (fin:∀ a w,J (λi=>i<ops.length) a w->Q .normal a w):∀ (fc:Nat) (dG:Array Bool) (a:Act) (w:World),dG.size=ops.length->todo ops dG<=fc->B1 ops (λi=>dG.getD i false=true) ->
   J (λi=>dG.getD i false=true) a w->wpAnyIn (g8 X) 0 X.P .any ops.toArray Q fc dG a w:=by
 have fQ:∀ (dG:Array Bool) (i:Nat),dG.getD i false=true->i<dG.size:=λdG i h=>by refine GY λaD=>?_;simp[Array.getD,aD]at h
 have full:∀ (dG:Array Bool) a w,dG.size=ops.length->Region.ready .any ops.toArray dG=[]->J (λi=>dG.getD i false=true) a w->Q .normal a w:=λdG a w dn mw a5=>by
  have all:∀ i,i<ops.length->dG.getD i false=true:=λi=>by
   induction i using Nat.strongRecOn with
   |ind i aQ=>
    intro hi;refine GY λaD=>?_;have aA:ops[i]?=some ops[i]:=dg hi;have:i∈Region.ready .any ops.toArray dG:=(mem_ready dn).2 ⟨_,aA,aD,λe he=>by
     have aa:=aZ i e he;exact aQ e aa (by omega)⟩
    rw[mw]at this;cases this
  have e:(λi=>dG.getD i false=true)=λi=>i<ops.length:=by funext i;simp only[eq_iff_iff];exact⟨λh=>by have:=fQ dG i h;omega,all i⟩
  rw[e]at a5;exact fin a w a5
 intro fc
 induction fc with
 |zero=>
  intro dG a w dn aB dz a5;have mw:Region.ready .any ops.toArray dG=[]:=by
   cases af:Region.ready .any ops.toArray dG with
   |nil=>rfl| cons i l=>obtain⟨o,aA,aD,_⟩:=(mem_ready dn).1 (by rw[af];simp:i∈Region.ready .any ops.toArray dG);have:=K3 (hG.1 aA).1 dn aD;omega
  exact⟨mw,full dG a w dn mw a5⟩
 |succ fc aQ=>
  intro dG a w dn aB dz a5;refine⟨λmw=>full dG a w dn mw a5,λq aL=>?_⟩;obtain⟨o,aA,aD,ah⟩:=(mem_ready dn).1 aL;have cy:=(hG.1 aA).1;have g2:=Wt (dG:=dG) (i:=q) (by omega);have next:∀ bL w',J (λj=>dG.getD j false=true\/j=q) bL w'->wpAnyIn (g8 X) 0 X.P .any ops.toArray Q fc (dG.setIfInBounds q true) bL w':=λbL w' h=>by
   refine aQ _ bL w' (by simpa using dn) ?_ ?_ (by rw[g2];exact h);·have:=K3 cy dn aD;omega
   ·rw[g2];rintro j e (ai | rfl) he
    ·exact .inl (dz j e ai he)
    ·exact .inl (ah e he)
  obtain⟨s1,s2⟩:=step _ a w q o a5 dz (λi hi=>by have:=fQ dG i hi;omega) aA aD ah;have Hc:ops.toArray[q]?=some o:=by simpa using aA
  unfold wpOpIn;simp only[Hc];cases hw:Region.wanted o (yielded ops.toArray a.tmps)with
  |true=>
   simp only[sj];exact td next (s1 hw)
  |false=>simp only[ld,mj];exact⟨λ_ _=>trivial,next _ _ (s2 hw)⟩
def aa4{S:List bw}{lo hi:Nat}{p:bw->Bool}{m:bw}(h:Fe S lo hi p=true)(aa:lo<=j)(ad:j<=hi)(ai:S[j]?=some m):p m=true:=by unfold Fe at h;refine fS.1 h m ?_;refine rk (i:=j-lo) ?_;rw[lb,bT (by omega),mO,show lo+(j-lo)=j by omega];exact ai
def filter_le{p:α->Bool}:∀ {l:List α},(∀ q e,l[q]?=some e->p e=true->q<j)->(l.filter p).length<=j:=by
 intro l h;have aI:l.filter p=(l.take j).filter p:=by
  conv=>lhs;rw[<-pM j l]
  rw[EB];have:(l.drop j).filter p=[]:=by rw[List.filter_eq_nil_iff];intro a a7 aJ;obtain⟨q,aL⟩:=L5 a7;rw[mO]at aL;have:=h _ _ aL aJ;omega
  rw[this,dF]
 rw[aI];refine jg (G0 _ _) ?_;simp;omega
def le_filter{p:α->Bool}{l:List α}(ai:j<=l.length)(h:∀ q e,q<j->l[q]?=some e->p e=true):j<=(l.filter p).length:=by
 have aI:(l.take j).filter p=l.take j:=by
  rw[List.filter_eq_self];intro a a7;obtain⟨q,aL⟩:=L5 a7;rw[lb]at aL;split at aL;·exact h q a (by assumption) aL
  ·cases aL
 have a6:l.filter p=(l.take j).filter p++(l.drop j).filter p:=by
  conv=>lhs;rw[<-pM j l]
  rw[EB]
 rw[a6,aI,cr,fO];omega
mutual
def aa5{D:bR}:∀ {x y:ap} {u:Value},Fc x y=true->aU D x u->aU D y u
 |x,y,u,h,ab=>by
  cases x<;>cases y<;>simp only[Fc,ld,cB]at h
  case b.b=>
   have:=eq_of_beq h;subst this;exact ab
  case i.i=>
   obtain⟨aa,ad⟩:=h;have:=IntKind.DW aa;subst this;rw[CV,h6]at ad;subst ad;exact ab
  case s.s=>
   rw[Fh,h6]at h;subst h;exact ab
  case pn.pn=>exact ab
  case p.p=>
   obtain⟨aa,ad⟩:=h;have:=ed aa;subst this;have:=ed ad;subst this;exact ab
  case g.g=>
   obtain⟨aa,ad⟩:=h;have:=ed aa;subst this;have:=ed ad;subst this;exact ab
  case sn.sn=>exact ab
  case sl.sl=>
   obtain⟨aa,ad,ak,aK⟩:=h;have:=ed aa;subst this;have:=ed ad;subst this;have:=ed ak;subst this;have:=ed aK;subst this;exact ab
  case sx.sx=>
   obtain⟨aa,ad,ak,aK⟩:=h;have:=ed aa;subst this;have:=ed ad;subst this;have:=ed ak;subst this;have:=ed aK;subst this;exact ab
  case gs.gs=>
   obtain⟨aa,ad,ak,aK⟩:=h;have:=ed aa;subst this;have:=ed ad;subst this;have:=ed ak;subst this;have:=ed aK;subst this;exact ab
  case mn.mn=>exact ab
  case m.m=>have:=ed h;subst this;exact ab
  case f.f=>
   obtain⟨aa,ad,ak⟩:=h;have:=ed aa;subst this;simp only[aU]at ab |-;obtain⟨vs,ws,bc,bi,ca⟩:=ab;exact⟨vs,ws,Fw ad bc,Fw ak bi,ca⟩
  case y.y=>have:=ed h;subst this;exact ab
  case fn.fn=>exact ab
  case ni.ni=>exact ab
  case t.t=>
   simp only[aU]at ab |-;obtain⟨vs,bc,bi⟩:=ab;exact⟨vs,Fw h bc,bi⟩
  case a.a=>
   simp only[aU]at ab |-;obtain⟨vs,bc,bi⟩:=ab;exact⟨vs,Fw h bc,bi⟩
def Fw{D:bR}:∀ {x y:List ap} {us:List Value},wY x y=true->bO D x us->bO D y us
 |[],[],us,h,ab=>ab| [],_::_,us,h,ab=>by simp[wY]at h
 |_::_,[],us,h,ab=>by simp[wY]at h
 |x::l,y::m,us,h,ab=>by simp only[wY,cB]at h;obtain⟨u,us,bc,bi,rfl⟩:=ab.kB;exact .cons (aa5 h.1 bc) (Fw h.2 bi)
end
def IW(dst:Option Nat)(an:bh ap)(v:ap)(df:bh ap):Prop:=(dst=none->df=an)/\∀ d,dst=some d->∀ t w,df.get t=some w->(t=d/\w=v)\/(t≠d/\an.get t=some w)
def MI(m m':bw)(l:List ap)(T:Nat):Prop:=m'.n=m.n+1/\(∀ id e,m'.t.get id=some e->id=m.n\/m.t.get id=some e)
def yP(m m':bw):Prop:=m.n<=m'.n/\∀ id e,id<m.n->m'.t.get id=some e->m.t.get id=some e
def yP.refl(m:bw):yP m m:=⟨b' _,λ_ _ _ h=>h⟩
def yP.trans{a b c:bw}(h:yP a b)(k:yP b c):yP a c:=⟨jg h.1 k.1,λid e hi he=>h.2 id e hi (k.2 id e (Kw hi h.1) he)⟩
def MI.grow{m m':bw}{l:List ap}{T:Nat}(h:MI m m' l T):yP m m':=⟨by rw[h.1];omega,λid e hi he=>by
 rcases h.2 id e he with aa | aa
 ·omega
 ·exact aa⟩
def amC{m:bw}{l:List ap}{T:Nat}{K:Nat->bw->Option R}{r:R}(h:vi m l T K=some r):∃ m',K m.n m'=some r/\MI m m' l T:=by unfold vi at h;obtain⟨cs,aa,ad⟩:=bh.yI l (.nil:bh ap) 0;rw[aa]at h;obtain⟨bn,ak,aK⟩:=IL h;exact⟨_,aK,rfl,λid e hi=>(ak id e hi).imp (λq=>q.1) λq=>q.2⟩
def dh.grow{m m':bw}(h:dh Y D m I M)(aw:yP m m'):dh Y D m' I M where
 ja id e a aa ad:=h.ja id e a (aw.2 id e (h.j4 _ _ ad) aa) ad
 inj id jb e cZ a bL aa wB ad oQ ag:=h.inj id jb e cZ a bL (aw.2 id e (h.j4 _ _ ad) aa) (aw.2 jb cZ (h.j4 _ _ oQ) wB) ad oQ ag
 j4 id a ad:=Kw (h.j4 _ _ ad) aw.1
 qO:=h.qO
inductive mc(X:c3)(G:GT)(pr:mb)(ops:List Oper):List (Nat×Nat)->bh ap->bw->List (Nat×ap)->bh ap->bw->List bw->List qN->Prop
 |nil{an m}:mc X G pr ops [] an m [] an m [m] []| q {i o bl an m v df vs g6 gI S A} (aA:ops[i]?=some o) (ae:lD X.E o.op=0) (hw:vj ops o an=some true) (aj:vh X.P X.E G m.t o.op an=some v) (aJ:IW o.dst an v df) (t:mc X G pr ops bl df m vs g6 gI S A) : mc X G pr ops ((i,0)::bl) an m ((i,v)::vs) g6 gI S (bif qq o.op then .load i o an v::A else A)| a {i o d bl an m m' l T c mk df vs g6 gI S A} (aA:ops[i]?=some o) (ae:lD X.E o.op=1) (hw:vj ops o an=some true) (ah:o.dst=some d) (aj:CS X.E o an=some (l,T,c,mk)) (aD:MI m m' l T) (aJ:IW o.dst an (mk m.n) df) (t:mc X G pr ops bl df m' vs g6 gI S A) : mc X G pr ops ((i,1)::bl) an m ((i,mk m.n)::vs) g6 gI S (.made i m.n l T::A)| e {i o bl an m m' v df vs g6 gI S A} (aA:ops[i]?=some o) (ae:lD X.E o.op=2) (hw:vj ops o an=some true) (ao:MH X G pr o an m v m') (aJ:IW o.dst an v df) (t:mc X G pr ops bl df m' vs g6 gI S A) : mc X G pr ops ((i,2)::bl) an m ((i,v)::vs) g6 gI (m::S) A| skip {i k o bl an m df vs g6 gI S A} (aA:ops[i]?=some o) (ae:lD X.E o.op=k) (hw:vj ops o an=some false) (aJ:IW o.dst an (.t []) df) (t:mc X G pr ops bl df m vs g6 gI S A) : mc X G pr ops ((i,k)::bl) an m ((i,.t [])::vs) g6 gI (bif Nat.beq k 2 then m::S else S) A
section
variable{X:c3}{G:GT}{pr:mb}{ops:List Oper}
def IX(aN:cW X.P X.E)(kp:∀ d,d<X.n->X.gC.contains d=true)(h8:∀ o∈ops,∀ d,o.dst=some d->d<X.n){call:ap->List ap->bw->Option (ap×bw)}(mZ:IT (dZ X G pr) call):∀ (row:List (Nat×Nat)) {an:bh ap} {m:bw} {mG:List bw} {oh:List qN} {g6:bh ap} {gI:bw} {k8:List bw} {nX:List qN},o6 (dZ X G pr) call ops row an m mG oh=some (g6,gI,k8,nX)->∃ vs S A,mc X G pr ops row an m vs g6 gI S A/\k8=S.reverse++mG/\(∀ h∈A,h∈nX)/\∀ h∈oh,h∈nX
 |[],an,m,mG,oh,g6,gI,k8,nX,h=>by simp only[o6,kK,ym]at h;obtain⟨rfl,rfl,rfl,rfl⟩:=h;exact⟨[],[m],[],.nil,by simp,by simp,λ_ h=>h⟩
 |(i,k)::bl,an,m,mG,oh,g6,gI,k8,nX,h=>by
  simp only[o6]at h;obtain⟨o,aA,h⟩:=ct h;obtain⟨w,hw,h⟩:=ct h;obtain⟨ae,h⟩:=fY h;rw[AB]at aA;have hR:lD X.E o.op=k:=ed ae;have zt:=h8 o (rk aA);cases w with
  |false=>
   have ad:CT o an (λan=>o6 (dZ X G pr) call ops bl an m (b2 (Nat.beq k 2) (m::mG) mG) oh)=some (g6,gI,k8,nX):=h;obtain⟨fJ,ak,bc,bi⟩:=aa3 ad;obtain⟨vs,S,A,aq,cc,dI,vq⟩:=IX aN kp h8 mZ bl ak;refine⟨_,_,_,.skip aA hR hw ⟨bc,bi⟩ aq,?_,dI,vq⟩;rw[cc];cases Nat.beq k 2<;>simp[b2]
  |true=>
   have aa:b2 (Nat.beq k 0) (bu (vh X.P X.E G m.t o.op an) none λv=>p1 o.dst an v λdf=>o6 (dZ X G pr) call ops bl df m mG (b2 (qq o.op) (.load i o an v::oh) oh)) (b2 (Nat.beq k 1) (bu o.dst none λd=>bu (CS X.E o an) none λr=>vi m r.1 r.2.1 λid m=>p1 (some d) an (r.2.2.2 id) λan=>o6 (dZ X G pr) call ops bl an m mG (.made i id r.1 r.2.1::oh)) (Aw (dZ X G pr) call o an m λan m'=>o6 (dZ X G pr) call ops bl an m' (m::mG) oh))=some (g6,gI,k8,nX):=h;by_cases HZ:k=0
   ·subst HZ;have ad:(bu (vh X.P X.E G m.t o.op an) none λv=>p1 o.dst an v λdf=>o6 (dZ X G pr) call ops bl df m mG (b2 (qq o.op) (.load i o an v::oh) oh))=some (g6,gI,k8,nX):=aa;obtain⟨v,aj,ad⟩:=ct ad;obtain⟨fJ,ak,bc,bi⟩:=Sk ad;obtain⟨vs,S,A,aq,cc,dI,vq⟩:=IX aN kp h8 mZ bl ak;refine⟨_,_,_,.q aA hR hw aj ⟨bc,bi⟩ aq,cc,λy aC=>?_,λy aC=>vq y ?_⟩
    ·cases ax:qq o.op with
     |false=>rw[ax]at aC;exact dI y aC
     |true=>
      rw[ax]at aC;rcases eI.1 aC with rfl | aC;·refine vq _ ?_;rw[ax];simp[b2]
      ·exact dI y aC
    ·cases qq o.op with
     |false=>exact aC| true=>exact nU _ aC
   rw[hI HZ]at aa;by_cases eT:k=1
   ·subst eT;have ad:(bu o.dst none λd=>bu (CS X.E o an) none λr=>vi m r.1 r.2.1 λid m=>p1 (some d) an (r.2.2.2 id) λan=>o6 (dZ X G pr) call ops bl an m mG (.made i id r.1 r.2.1::oh))=some (g6,gI,k8,nX):=aa;obtain⟨d,ah,ad⟩:=ct ad;obtain⟨⟨l,T,c,mk⟩,a7,ad⟩:=ct ad;obtain⟨m2,ak,aD⟩:=amC ad;have yp:p1 o.dst an (mk m.n) (λan=>o6 (dZ X G pr) call ops bl an m2 mG (.made i m.n l T::oh))=some (g6,gI,k8,nX):=by rw[ah];exact ak
    obtain⟨fJ,aK,bc,bi⟩:=Sk yp;obtain⟨vs,S,A,aq,cc,dI,vq⟩:=IX aN kp h8 mZ bl aK;refine⟨_,_,_,.a aA hR hw ah a7 aD ⟨bc,bi⟩ aq,cc,λy aC=>?_,λy aC=>vq y (nU _ aC)⟩;rcases eI.1 aC with rfl | aC;·exact vq _ (by simp)
    ·exact dI y aC
   ·rw[hI eT]at aa;have ad:Aw (dZ X G pr) call o an m (λan m'=>o6 (dZ X G pr) call ops bl an m' (m::mG) oh)=some (g6,gI,k8,nX):=aa;obtain⟨v,c1,fJ,IV,-,ak,bc,bi⟩:=aa1 aN kp zt mZ ad;obtain⟨vs,S,A,aq,cc,dI,vq⟩:=IX aN kp h8 mZ bl ak;have e1:k=2:=by
     have:lD X.E o.op<=2:=by
      unfold lD;split<;>first | omega | (split<;>first | omega | (split<;>omega))
     rw[hR]at this;omega
    subst e1;exact⟨_,_,_,.e aA hR hw IV ⟨bc,bi⟩ aq,by rw[cc];simp,dI,vq⟩
def mc.head{an g6:bh ap}{m gI:bw}{vs:List (Nat×ap)}{S:List bw}{A:List qN}(h:mc X G pr ops row an m vs g6 gI S A):∃ m2 k8,S=m2::k8/\yP m m2:=by
 induction h with
 |nil=>exact⟨_,_,rfl,.refl _⟩| q _ _ _ _ _ _ aQ=>exact aQ| a _ _ _ _ _ aD _ _ aQ=>obtain⟨m2,k8,aa,ad⟩:=aQ;exact⟨m2,k8,aa,aD.grow.trans ad⟩
 |e _ _ _ _ _ _ _=>exact⟨_,_,rfl,.refl _⟩
 | @skip i k o bl an m df vs g6 gI S A _ _ _ _ _ aQ=>
  cases ae:Nat.beq k 2 with
  |true=>exact⟨_,_,rfl,.refl _⟩| false=>simpa using aQ
def mc.MJ{an g6:bh ap}{m gI:bw}{vs:List (Nat×ap)}{S:List bw}{A:List qN}(h:mc X G pr ops row an m vs g6 gI S A):m.n<=gI.n/\∀ i c l T,.made i c l T∈A->m.n<=c/\i∈row.map (·.1):=by
 induction h with
 |nil=>exact⟨b' _,λ_ _ _ _ h=>by cases h⟩
 | @q i o bl an m v df vs g6 gI S A _ _ _ _ _ _ aQ=>
  refine⟨aQ.1,λgU c l T hm=>?_⟩;have sv:.made gU c l T∈A:=by
   cases ax:qq o.op with
   |false=>rw[ax]at hm;exact hm
   |true=>
    rw[ax]at hm;rcases eI.1 hm with e | hm;·cases e
    ·exact hm
  exact⟨(aQ.2 gU c l T sv).1,nU _ (aQ.2 gU c l T sv).2⟩
 |a _ _ _ _ _ aD _ _ aQ=>
  refine⟨jg aD.grow.1 aQ.1,λgU c l T hm=>?_⟩;rcases eI.1 hm with e | hm;·cases e;exact⟨b' _,by simp⟩
  ·exact⟨jg aD.grow.1 (aQ.2 gU c l T hm).1,nU _ (aQ.2 gU c l T hm).2⟩
 |e _ _ _ ao _ _ aQ=>exact⟨jg ao.1 aQ.1,λgU c l T hm=>⟨jg ao.1 (aQ.2 gU c l T hm).1,nU _ (aQ.2 gU c l T hm).2⟩⟩| skip _ _ _ _ _ aQ=>exact⟨aQ.1,λgU c l T hm=>⟨(aQ.2 gU c l T hm).1,nU _ (aQ.2 gU c l T hm).2⟩⟩
def mc.split:∀ (a9:List (Nat×Nat)) {bl:List (Nat×Nat)} {an g6:bh ap} {m gI:bw} {vs:List (Nat×ap)} {S:List bw} {A:List qN},mc X G pr ops (a9++bl) an m vs g6 gI S A -> ∃ w4 yQ fJ c1 vr yR w5,vs=w4++yQ/\w4.map (·.1)=a9.map (·.1)/\S=vr++yR/\vr.length=(a9.filter λr=>Nat.beq r.2 2).length/\mc X G pr ops bl fJ c1 yQ g6 gI yR w5/\(∀ h∈w5,h∈A)/\m.n<=c1.n /\ (∀ t w,fJ.get t=some w->(∃ i,(i,w)∈w4/\jo ops i=some t)\/((∀ i∈a9.map (·.1),jo ops i≠some t)/\an.get t=some w)) /\ (∀ i c l T,.made i c l T∈A->.made i c l T∈w5\/c<c1.n)
 |[],bl,an,g6,m,gI,vs,S,A,h=>⟨[],vs,an,m,[],S,A,rfl,rfl,rfl,rfl,h,λ_ h=>h,b' _,λt w hw=>.inr ⟨by simp,hw⟩,λ_ _ _ _ h=>.inl h⟩
 |(i,k)::a9,bl,an,g6,m,gI,vs,S,A,h=>by
  have fin:∀ {o:Oper} {df:bh ap} {m':bw} {v:ap} {tk:List (Nat×ap)} {k8 S:List bw} {nX A:List qN},ops[i]?=some o->IW o.dst an v df->m.n<=m'.n->mc X G pr ops (a9++bl) df m' tk g6 gI k8 nX -> (S=if Nat.beq k 2 then m::k8 else k8)->(∀ h∈nX,h∈A)->(∀ i c l T,.made i c l T∈A->.made i c l T∈nX\/c<m'.n) ->
    ∃ w4 yQ fJ c1 vr yR w5,(i,v)::tk=w4++yQ/\w4.map (·.1)=((i,k)::a9).map (·.1)/\S=vr++yR/\vr.length=(((i,k)::a9).filter λr=>Nat.beq r.2 2).length/\mc X G pr ops bl fJ c1 yQ g6 gI yR w5/\(∀ h∈w5,h∈A)/\m.n<=c1.n /\ (∀ t w,fJ.get t=some w->(∃ i,(i,w)∈w4/\jo ops i=some t)\/((∀ gU∈((i,k)::a9).map (·.1),jo ops gU≠some t)/\an.get t=some w)) /\
     (∀ i c l T,.made i c l T∈A->.made i c l T∈w5\/c<c1.n):=by
   intro o df m' v tk k8 S nX A aA aJ IU aq cc dI amD;obtain⟨w4,yQ,fJ,c1,vr,yR,w5,aI,a6,cq,dS,l5,nh,Fx,IY,w6⟩:=mc.split a9 aq;refine⟨(i,v)::w4,yQ,fJ,c1,(if Nat.beq k 2 then m::vr else vr),yR,w5,by rw[aI];rfl,by simp[a6],?_,?_,l5,λh cG=>dI h (nh h cG),jg IU Fx,λt w hw=>?_,λi c l T hm=>?_⟩
   ·rw[cc,cq];split<;>simp
   ·simp only[xT];split<;>simp[dS]
   ·rcases IY t w hw with⟨gU,aa,ad⟩ | ⟨aa,ad⟩
    ·exact .inl ⟨gU,nU _ aa,ad⟩
    ·have qt:jo ops i=o.dst:=by simp[jo,aA]
     cases ah:o.dst with
     |none=>
      rw[aJ.1 ah]at ad;refine .inr ⟨λgU cC=>?_,ad⟩;rcases eI.1 cC with e | cC;·rw[show gU=i from e,qt,ah];simp
      ·exact aa gU cC
     |some d=>
      rcases aJ.2 d ah t w ad with⟨rfl,rfl⟩ | ⟨bt,ak⟩;·exact .inl ⟨i,by simp,by rw[qt,ah]⟩
      ·refine .inr ⟨λgU cC=>?_,ak⟩;rcases eI.1 cC with e | cC
       ·rw[show gU=i from e,qt,ah];exact λe=>bt (by cases e;rfl)
       ·exact aa gU cC
   ·rcases amD i c l T hm with aa | aa
    ·exact w6 i c l T aa
    ·exact .inr (Kw aa Fx)
  cases h with
  |q aA ae hw aj aJ t=>
   rename_i o v df tk nX;refine fin aA aJ (b' _) t (by simp) (λh cG=>?_) λi c l T hm=>?_
   ·cases qq o.op with
    |false=>exact cG| true=>exact nU _ cG
   ·cases ax:qq o.op with
    |false=>rw[ax]at hm;exact .inl hm
    |true=>
     rw[ax]at hm;rcases eI.1 hm with e | hm;·cases e
     ·exact .inl hm
  |a aA ae hw ah aj aD aJ t=>
   refine fin aA aJ aD.grow.1 t (by simp) (λh cG=>nU _ cG) λi c l T hm=>?_;rcases eI.1 hm with e | hm;·cases e;exact .inr (by rw[aD.1];omega)
   ·exact .inl hm
  |e aA ae hw ao aJ t=>exact fin aA aJ ao.1 t (by simp) (λ_ h=>h) λ_ _ _ _ h=>.inl h
  |skip aA ae hw aJ t=>exact fin aA aJ (b' _) t (by cases Nat.beq k 2<;>rfl) (λ_ h=>h) λ_ _ _ _ h=>.inl h
end
section
variable{ops:List Oper}
def amE{i k:Nat}{o:Oper}(aA:ops[i]?=some o)(h:G5 o k=true):∀ e,mV ops i e->k.testBit e=true:=by rintro e⟨o',kO,ry,rs,ag,rfl⟩;rw[aA]at ry;cases ry;have:=fS.1 h kO (by simpa using rs);rw[ag]at this;simpa using this
def MK:∀ {row:List (Nat×Nat)} {k:Nat},wX ops row k=true->∀ (a9:List (Nat×Nat)) (i c:Nat) (post:List (Nat×Nat)),row=a9++(i,c)::post -> (∃ o,ops[i]?=some o)/\k.testBit i=false/\i ∉ a9.map (·.1)/\∀ e,mV ops i e->k.testBit e=true\/e∈a9.map (·.1)
 |[],k,h,a9,i,c,post,e=>by simp at e
 |(i0,yu)::row,k,h,a9,i,c,post,e=>by
  simp only[wX,cB,tq]at h;obtain⟨aa,ad⟩:=h;split at ad
  ·rename_i o aA;rw[cB]at ad;cases a9 with
   |nil=>simp only[hX,zV,ym]at e;obtain⟨⟨rfl,rfl⟩,rfl⟩:=e;exact⟨⟨o,aA⟩,aa,by simp,λe he=>.inl (amE aA ad.1 e he)⟩
   |cons p a9=>
    simp only[pN,zV]at e;obtain⟨aI,a6⟩:=e;obtain⟨bc,bi,ca,gf⟩:=MK ad.2 a9 i c post a6;have ag:∀ x,(k ||| 2^i0).testBit x=(k.testBit x||decide (x=i0)):=λx=>by rw[KT,KS];congr 1;exact decide_eq_decide.2 eq_comm
    rw[ag,tB]at bi;refine⟨bc,bi.1,?_,λe he=>?_⟩;·rw[<-aI];simp only[b5,eI,not_or];exact⟨by simpa using bi.2,ca⟩
    ·rcases gf e he with h | h
     ·rw[ag,lp]at h;rcases h with h | h
      ·exact .inl h
      ·exact .inr (by rw[<-aI];simp at h;simp[h])
     ·exact .inr (by rw[b5];exact nU _ h)
  ·cases ad
def Sn:∀ {row:List (Nat×Nat)} {k:Nat},wX ops row k=true->∀ i,i<ops.length->k.testBit i=true\/i∈row.map (·.1)
 |[],k,h,i,hi=>by
  simp only[wX]at h;have:=ed h;subst this
  left
  rw[Nat.testBit_two_pow_sub_one];simpa using hi
 |(i0,yu)::row,k,h,i,hi=>by
  simp only[wX,cB,tq]at h;obtain⟨aa,ad⟩:=h;split at ad
  ·rw[cB]at ad;rcases Sn ad.2 i hi with h | h
   ·rw[KT,KS,lp]at h;rcases h with h | h
    ·exact .inl h
    ·have:i0=i:=by simpa using h
     exact .inr (by simp[this])
   ·exact .inr (by rw[b5];exact nU _ h)
  ·cases ad
def amF(h:wX ops row 0=true):(row.map (·.1)).Nodup:=by
 have key:∀ {row:List (Nat×Nat)} {k:Nat},wX ops row k=true->(row.map (·.1)).Nodup:=by
  intro row
  induction row with
  |nil=>intro k _;exact zp
  |cons r row aQ=>
   intro k h;obtain⟨i0,yu⟩:=r;have bq:=h;simp only[wX,cB,tq]at h;obtain⟨aa,ad⟩:=h;split at ad;·rw[cB]at ad;rw[b5,lf];refine⟨λhm=>?_,aQ ad.2⟩;obtain⟨⟨x,c⟩,ab,So⟩:=cP.1 hm;obtain⟨a9,post,e⟩:=vf ab;have Sp:x=i0:=So;subst Sp;have:=(MK bq ((x,yu)::a9) x c post (by rw[e];rfl)).2.2.1;exact this (by simp)
   ·cases ad
 exact key h
def aa6{α β:Type}:∀ {l:List (α×β)},(l.map (·.1)).Nodup->∀ {k:α} {a b:β},(k,a)∈l->(k,b)∈l->a=b
 |[],_,k,a,b,h,_=>by cases h
 |(HZ,c)::l,aD,k,a,b,h,bq=>by
  rw[b5,lf]at aD;rcases eI.1 h with e | h
  ·cases e;rcases eI.1 bq with cZ | bq
   ·cases cZ;rfl
   ·exact(aD.1 (cP.2 ⟨_,bq,rfl⟩)).elim
  ·rcases eI.1 bq with cZ | bq
   ·cases cZ;exact(aD.1 (cP.2 ⟨_,h,rfl⟩)).elim
   ·exact aa6 aD.2 h bq
end
section
variable{X:c3}{G:GT}{pr:mb}{D0:bR}{n0:Nat}{a:Act}{w:World}
def ML{o:Oper}{an:bh ap}(h:vj ops o an=some b)(bE:∀ t,e4 β (F t) (a.tmps.getD t undef))(H:∀ t∈looks ops o,∀ v,an.get t=some v->gx D (F t) v) :
  Region.wanted o (yielded ops.toArray a.tmps)=b:=by
 unfold vj at h;split at h
 ·rename_i aw;cases h;simp[Region.wanted,aw]
 ·rename_i j c aw;split at h
  ·cases h
  ·rename_i d ai;have jS:(ops[j]?).bind (·.dst)=some d:=by rw[AB]at ai;simpa using ai
   have amG:(ops.toArray[j]?).bind (·.dst)=some d:=by simpa using jS
   have aC:=GI amG a.tmps;have l0:d∈looks ops o:=Pa aw jS;split at h
   ·rename_i q aL;cases h;have av:=H _ l0 _ aL;have aj:a.tmps.getD d undef=.bool q:=by
     have aa:=bE d;rcases av with⟨u,e,hu⟩ | ⟨gb,cZ,e⟩;·rw[e]at aa;rw[aa,hu.bool]
     ·cases cZ;rw[e]at aa;exact aa
    simp[Region.wanted,aw,aC,D1 aj]
   ·rename_i l aL;cases h;have av:=H _ l0 _ aL;obtain⟨u,e,hu⟩:=av.wZ (by simp);obtain⟨vs,_,rfl⟩:=hu.RS;have aa:=bE d;rw[e]at aa;have sq:yielded ops.toArray a.tmps j=none:=by
     rw[aC];cases jU:a.tmps[d]? with
     |none=>rfl| some v=>simp only[e4,pz,jU,kL]at aa;subst aa;rfl
    simp[Region.wanted,aw,sq]
   ·cases h
def amH{o:Oper}{an:bh ap}(H:∀ t∈looks ops o,∀ v,an.get t=some v->gx D (F t) v):jx D F an o.op.operands.toList:=λx ab v aj=>by
 cases x with
 |tmp t=>exact H t (Pb (by simpa using ab)) v aj| const c=>exact(show qP D F .nil from λt v h=>by cases h).op [.const c] (.const c) (by simp) v aj| global g=>exact(show qP D F .nil from λt v h=>by cases h).op [.global g] (.global g) (by simp) v aj| func f=>exact(show qP D F .nil from λt v h=>by cases h).op [.func f] (.func f) (by simp) v aj
def amI{m m2:bh fw}{an:bh ap}(h:qq op=false):vh X.P X.E G m op an=vh X.P X.E G m2 op an:=by
 cases op with
 |load=>simp[qq]at h| slice t x lo hi mx=>cases mx<;>cases lo<;>cases hi<;>rfl
 |unOp u=>cases u<;>rfl
 |call c=>
  obtain⟨callee,args,dC⟩:=c;cases callee<;>rfl
 |_=>rfl
def Fy(X:c3)(G:GT)(pr:mb)(D0:bR)(n0:Nat)(ops:List Oper)(es:List Nat)(an:bh ap)(vs:List (Nat×ap))(S:List bw)(A:List qN)(L:Nat->Prop)(a:Act)(w:World):Prop:=
 ∃ D F C I M j r1,Rel X a w F C I M/\(∀ q e,es[q]?=some e->(L e ↔ q<j))/\j<=es.length/\S[j]?=some r1/\dh (dZ X G pr) D r1 I M/\(∀ i v t,L i->(i,v)∈vs->jo ops i=some t->gx D (F t) v) /\ (∀ t v,(∀ i,L i->jo ops i≠some t)->an.get t=some v->gx D (F t) v)/\(∀ i c l T,qN.made i c l T∈A->¬ L i->D c=none)/\D0.ext D n0
def Fy.an(dx:wk ops){L:Nat->Prop}{q:Nat}{o:Oper}(aL:ops[q]?=some o)(rv:¬ L q){vs:List (Nat×ap)}(Fz:(vs.map (·.1)).Nodup){v:ap}(aj:(q,v)∈vs){an:bh ap}(bf:D.le bG)(aJ:vp o.dst v bG F dc)(dI:∀ i v t,L i->(i,v)∈vs->jo ops i=some t->gx D (F t) v)(amJ:∀ t v,(∀ i,L i->jo ops i≠some t)->an.get t=some v->gx D (F t) v) :
  (∀ i v t,(L i\/i=q)->(i,v)∈vs->jo ops i=some t->gx bG (dc t) v)/\(∀ t v,(∀ i,(L i\/i=q)->jo ops i≠some t)->an.get t=some v->gx bG (dc t) v):=by
 have aa7:jo ops q=o.dst:=by simp[jo,aL]
 constructor
 ·rintro i u t (hi | rfl) hm ah
  ·have bt:o.dst≠some t:=λe=>by obtain⟨gD,iq,qt⟩:=Ha ah;exact dx.O' i q gD o t (λcZ=>rv (cZ ▸ hi)) iq aL qt e
   exact aJ.2 bG t u bt ((dI i u t hi hm ah).mono bf)
  ·rw[aa6 Fz hm aj];rw[aa7]at ah;exact aJ.1 t ah
 ·intro t u eK aw;have bt:o.dst≠some t:=λe=>eK q (.inr rfl) (by rw[aa7,e]);exact aJ.2 bG t u bt ((amJ t u (λi hi=>eK i (.inl hi)) aw).mono bf)
end
section
variable{X:c3}{G:GT}{pr:mb}{D0:bR}{n0:Nat}{a:Act}{w:World}
def Sq{g1:List Nat}:∀ {es:List Nat},Mh g1 es=true->∀ (p q:Nat) (x y:Nat),p<q->es[p]?=some x->es[q]?=some y->(g1.getD y 0).testBit x=true
 |[],_,p,q,x,y,_,ab,_=>by simp at ab
 |e::es,h,p,q,x,y,mX,ab,aC=>by
  simp only[Mh,cB]at h;cases q with
  |zero=>omega
  |succ q=>
   have tm:es[q]?=some y:=by simpa using aC
   cases p with
   |zero=>simp at ab;subst ab;exact fS.1 h.1 y (rk tm)| succ p=>exact Sq h.2 p q x y (by omega) (by simpa using ab) tm
def amK:e∈yG E ops ↔ e<ops.length/\CU E ops e=2:=by
 unfold yG;rw[n4,j9];constructor
 ·rintro⟨aa,ad⟩;exact⟨aa,ed ad⟩
 ·rintro⟨aa,ad⟩;exact⟨aa,by rw[ad];rfl⟩
def aa8{i:Nat}{o:Oper}(h:ops[i]?=some o):CU E ops i=lD E o.op:=by unfold CU;rw[AB,h];rfl
def gx.same{x:dH}{u v:ap}(h:gx D x u)(av:Fc u v=true):gx D x v:=by
 rcases h with⟨y,rfl,h⟩ | ⟨q,rfl,rfl⟩
 ·exact .val (aa5 av h)
 ·have:v=.b q:=by
   cases v<;>simp only[Fc,ld]at av
   rw[eq_of_beq av]
  exact .inr ⟨q,this,rfl⟩
def amL(aN:cW X.P X.E)(kp:∀ d,d<X.n->X.gC.contains d=true)(mZ:IT (dZ X G pr) call){id:Nat}{IZ:Array Oper}(iC:X.P.follows .mixedOrders=true)(aD:xN X.n IZ=true)
  {an g6:bh ap} {m gI:bw} (h:RH (dZ X G pr) call IZ.toList an m=some (g6,gI)) (kM:∀ a w,lH X G pr D0 n0 g6 gI a w->Q .normal a w) (av:lH X G pr D0 n0 an m a w) :
  (Code.region id IZ true).wpIn (g8 X) 0 X.P Q a w:=by
 refine wpIn_region_any iC ?_;generalize wj:IZ.toList=ops at h;have amM:IZ=ops.toArray:=by apply gX;simpa using wj
 subst amM;have h8:∀ o∈ops,∀ d,o.dst=some d->d<X.n:=by simpa using KJ aD
 unfold RH at h;obtain⟨FA,h⟩:=fY h;unfold Z3 at FA;simp only[cB]at FA;obtain⟨amN,mE,aa9,wL⟩:=FA;have dx:wk ops:=Wl amN;have aba:((Iv X.E ops).filter λr=>Nat.beq r.2 2).map (·.1)=yG X.E ops:=by simpa using wL
 clear wL;generalize kt:yG X.E ops=es at *;have Sr:∀ e,e∈es ↔ e<ops.length/\CU X.E ops e=2:=λe=>by rw[<-kt];exact amK
 generalize I0:Iv X.E ops=row at *;cases ie:o6 (dZ X G pr) call ops row an m [] []with
 |none=>rw[ie]at h;cases h| some amO=>
 obtain⟨amP,amQ,k8,nX⟩:=amO;rw[ie]at h;have bq:b2 (nX.all (RG (dZ X G pr) es (lq ops) k8.reverse)) (some (amP,amQ)) none=some (g6,gI):=h;clear h;obtain⟨abb,bq⟩:=fY bq;cases bq;obtain⟨vs,S,A,MM,MN,amR,-⟩:=IX aN kp h8 mZ row ie;rw[dF]at MN;subst MN;rw[Sb]at abb;have abc:∀ y∈A,RG (dZ X G pr) es (lq ops) S y=true:=λy aC=>fS.1 abb y (amR y aC);have jD:(row.map (·.1)).Nodup:=amF mE;obtain⟨avU,avV,avW,avX,avY,avZ,av0,jE,mY,oN,ke,abd,av1,amS,amT,av2⟩:=mc.split row (bl:=[]) (by rw[dF];exact MM);have amU:(row.filter λr=>Nat.beq r.2 2).length=es.length:=by rw[<-aba,bx]
 cases abd;rw[dF]at jE;subst jE;have Fz:(vs.map (·.1)).Nodup:=by rw[mY];exact jD
 have amV:=MM.MJ;have amW:∀ (a9:List (Nat×Nat)) (bl:List (Nat×Nat)),row=a9++bl->B1 ops (λi=>i∈a9.map (·.1)):=λa9 bl nj j e ai he=>by
  obtain⟨⟨x,c⟩,ab,So⟩:=cP.1 ai;have Sp:x=j:=So;subst Sp;obtain⟨Es,Et,aI⟩:=vf ab;rcases(MK mE Es x c (Et++bl) (by rw[nj,aI];simp)).2.2.2 e he with h | h;·simp at h
  ·show e∈a9.map (·.1);rw[aI,cM];exact cv.2 (.inl h)
 let J:=Fy X G pr D0 n0 ops es an vs S A
 have key:=amB (X:=X) (ops:=ops) (Q:=Q) dx.lt J ?step ?fin ops.length (Array.replicate ops.length false) a { w with drawn:=w.drawn+1 } (by simp) (by unfold todo;exact jg (G0 _ _) (by simp)) ?cl ?start
 case cl=>
  intro j e ai;exfalso;by_cases hi:j<ops.length<;>simp[pz,hi]at ai
 case start=>
  obtain⟨D,F,C,I,M,⟨β,aV⟩,bE,mD,ab,qy⟩:=av;obtain⟨m2,yR,amX,aw⟩:=MM.head;have bY:∀ i,¬ (Array.replicate ops.length false).getD i false=true:=λi=>by
   by_cases hi:i<ops.length<;>simp[pz,hi]
  refine⟨D,F,C,I,M,0,m2,⟨β,aV.world rfl⟩,λq e _=>⟨λh=>(bY e h).elim,λh=>by omega⟩,dp _,by rw[amX];rfl,mD.grow aw,λi v t hi=>(bY i hi).elim,λt v _ aw=>bE t v aw,λi c l T rE _=>?_,ab⟩;have:=(amV.2 i c l T rE).1;cases I2:D c with
  |none=>rfl| some b=>have:=mD.j4 _ _ I2;omega
 case fin=>
  rintro a w⟨D,F,C,I,M,j,r1,aV,w7,ai,vt,mD,C7,C8,ho,ab⟩;have fB:j=es.length:=by
   refine Nat.le_antisymm ai ?_;by_cases ay:es.length=0;·omega
   ·have aZ:es.length-1<es.length:=by omega
    have aa:=(w7 (es.length-1) es[es.length-1] (dg aZ)).1 ((Sr _).1 (bJ aZ)).1;omega
  have amY:r1=gI:=by rw[fB,oN,l3 (by omega),ke,amU]at vt;simpa using vt.symm
  subst amY;refine kM a w ⟨D,F,C,I,M,aV,λt v aw=>?_,mD,ab,?_⟩
  ·rcases amT t v aw with⟨i,aa,ad⟩ | ⟨aa,ad⟩
   ·obtain⟨gD,iq,_⟩:=Ha ad;exact C7 i v t (hG.1 iq).1 aa ad
   ·refine C8 t v (λi hi=>?_) ad;rcases Sn mE i hi with ak | ak
    ·simp at ak
    ·exact aa i ak
  ·obtain⟨bG,dc,C',I',M',_,_,_,_,qy⟩:=av;exact jg qy amS
 case step=>
  rintro L a w q o⟨D,F,C,I,M,j,r1,⟨β,aV⟩,w7,ai,vt,mD,C7,C8,ho,ab⟩dz AP aL rv MO;have hC:q<ops.length:=(hG.1 aL).1;have uP:=h8 o (rk aL);obtain⟨⟨gb,k⟩,amZ,Ss⟩:=cP.1 ((Sn mE q hC).resolve_left (by simp));have am0:gb=q:=Ss;subst am0;obtain⟨a9,post,c9⟩:=vf amZ;obtain⟨-,-,abe,am1⟩:=MK mE a9 gb k post c9;have am2:∀ e,mV ops gb e->e∈a9.map (·.1):=λe he=>(am1 e he).resolve_left (by simp);have St:=amW a9 ((gb,k)::post) c9;have abf:=MM;rw[c9]at abf;obtain⟨w4,yQ,fJ,c1,vr,yR,w5,aI,a6,cq,dS,l5,nh,Fx,IY,w6⟩:=mc.split a9 abf;have av3:=l5.MJ;have H:∀ t∈looks ops o,∀ v,fJ.get t=some v->gx D (F t) v:=λt aq v aj=>by
   rcases IY t v aj with⟨i,aa,ad⟩ | ⟨aa,ad⟩
   ·obtain⟨gD,iq,qt⟩:=Ha ad;have abg:i∈a9.map (·.1):=by rw[<-a6];exact cP.2 ⟨_,aa,rfl⟩
    have bt:i≠gb:=λe=>abe (e ▸ abg);rcases dx.ord i gb gD o t bt iq aL qt aq with ag | ag;·exact C7 i v t (ag.mem dz MO) (by rw[aI];exact cv.2 (.inl aa)) ad
    ·exact(abe (ag.mem St λe he=>St i e abg he)).elim
   ·refine C8 t v (λi hi kS=>?_) ad;obtain⟨gD,iq,qt⟩:=Ha kS;have bt:i≠gb:=λe=>rv (e ▸ hi);rcases dx.ord i gb gD o t bt iq aL qt aq with ag | ag
    ·exact aa i (ag.mem St am2) kS
    ·exact rv (ag.mem dz λe he=>dz i e hi he)
  have sY:jx D F fJ o.op.operands.toList:=amH H;have e6:Fb es (lq ops) gb<=j:=filter_le λp e aJ ag=>by exact(w7 p e aJ).1 ((zE ag).mem dz MO)
  have gB:j<=lE es (lq ops) gb:=le_filter ai λp e aJ Su=>by
   cases ag:((lq ops).getD e 0).testBit gb with
   |false=>rfl| true=>have vu:L e:=(w7 p e Su).2 aJ;exact(rv ((zE ag).mem dz λd ah=>dz e d vu ah)).elim
  have abh:lD X.E o.op≠2->∀ p e,es[p]?=some e->((L e\/e=gb) ↔ p<j):=λae p e aJ=>by
   have bt:e≠gb:=λhe=>ae (by
    have:=((Sr e).1 (rk aJ)).2;rw[he,aa8 aL]at this;exact this)
   exact⟨λcG=>(w7 p e aJ).1 (cG.resolve_right bt),λcG=>.inl ((w7 p e aJ).2 cG)⟩
  have Sv:lD X.E o.op=2->es[j]?=some gb/\j+1<=es.length/\∀ p e,es[p]?=some e->((L e\/e=gb) ↔ p<j+1):=λae=>by
   have Ss:gb∈es:=(Sr gb).2 ⟨hC,by rw[aa8 aL];exact ae⟩;obtain⟨AQ,gy⟩:=L5 Ss;have av4:=(hG.1 gy).1;have aa:¬ AQ<j:=λcG=>rv ((w7 AQ gb gy).2 cG);have ad:¬ j<AQ:=λcG=>by
    have fB:j<es.length:=by omega
    have Sw:=Sq aa9 j AQ es[j] gb cG (dg fB) gy;have:=(w7 j es[j] (dg fB)).1 ((zE Sw).mem dz MO);omega
   have ak:AQ=j:=by omega
   subst ak;refine⟨gy,by omega,λp e aJ=>⟨λcG=>?_,λcG=>?_⟩⟩
   ·rcases cG with cG | rfl
    ·have:=(w7 p e aJ).1 cG;omega
    ·refine GY λaD=>?_;have Sw:=Sq aa9 AQ p e e (by omega) gy aJ;exact rv ((zE Sw).mem dz MO)
   ·by_cases ss:p<AQ
    ·exact .inl ((w7 p e aJ).2 ss)
    ·have:p=AQ:=by omega
     subst this;rw[gy]at aJ;exact .inr (pb aJ).symm
  have plain:∀ {v:ap} {dc:Fr} {C':dN} {bL:Act} {w':World},(gb,v)∈vs->lD X.E o.op≠2->(∀ l T c,qN.made gb c l T ∉ A\/True)->Rel X bL w' dc C' I M->vp o.dst v D F dc->J (λj=>L j\/j=gb) bL w':=fun {v dc C' bL w'} aj ae _ rz aJ=>by obtain⟨f1,f2⟩:=Fy.an dx aL rv Fz aj (bR.le_refl D) aJ C7 C8;exact⟨D,dc,C',I,M,j,r1,rz,abh ae,ai,vt,mD,f1,f2,λi c l T hm eK=>ho i c l T hm λhi=>eK (.inl hi),ab⟩
  have I3:∀ {v:ap} {bl:List (Nat×ap)},yQ=(gb,v)::bl->(gb,v)∈vs:=fun {v bl} he=>by rw[aI,he];exact cv.2 (.inr (by simp))
  have am3:n0<=c1.n:=by obtain⟨bG,dc,C',I',M',_,_,_,_,qy⟩:=av;exact jg qy Fx
  have abi:∀ {k:Nat},k=2->row=a9++(gb,k)::post->lD X.E o.op=2->vr.length=j:=fun {k} e1 am4 ae=>by
   obtain⟨Sx,fB,_⟩:=Sv ae;have am5:es=(a9.filter λr=>Nat.beq r.2 2).map (·.1)++gb::((post.filter λr=>Nat.beq r.2 2).map (·.1)):=by rw[<-aba,am4,EB,cM,xT];subst e1;simp
   have bU:es.Nodup:=by rw[<-kt];exact BY.sublist zT
   have aa:es[vr.length]?=some gb:=by rw[am5,l3 (by rw[bx,dS];exact b' _),bx,dS,mC];rfl
   have rA:=(hG.1 aa).1;exact(List.getElem?_inj rA bU).1 (by rw[aa,Sx])
  cases l5 with
  | @q i o' bl nd jw v df tk Sy Sz mG oh aA ae C9 aj aJ t=>
   have nk:o'=o:=pb (aA.symm.trans aL);subst nk;have hw:=ML C9 aV.an H;refine⟨λ_=>?_,λaB=>by rw[hw]at aB;cases aB⟩;obtain⟨u,hu,am6⟩:∃ u,vh X.P X.E G r1.t o'.op fJ=some u/\∀ x,gx D x u->gx D x v:=by
    cases ax:qq o'.op with
    |false=>exact⟨v,by rw[amI ax (m2:=c1.t)];exact aj,λ_ h=>h⟩
    |true=>
     have gh:qN.load gb o' fJ v∈A:=nh _ (by rw[ax];simp);have aa:=abc _ gh;have ad:=aa4 (show Fe S (Fb es (lq ops) gb) (lE es (lq ops) gb) (RE (dZ X G pr) o' fJ v)=true from aa) e6 gB vt;unfold RE at ad;split at ad;·rename_i u hu;exact⟨u,hu,λx ab=>ab.same ad⟩
     ·cases ad
   refine td (λbL w'=>?_) (DZ aN uP ⟨β,aV⟩ (aa0 (K:=λdc C' I' M'=>I'=I/\M'=M/\vp o'.dst v D F dc) aN uP ae hu sY mD λx ab=>⟨rfl,rfl,.put F (am6 x ab)⟩));rintro⟨dc,C',I',M',gL,rfl,rfl,Sl⟩;exact plain (I3 rfl) (by rw[ae];decide) (λ_ _ _=>.inr trivial) gL Sl
  | @a i o' d bl nd jw m' l T c mk df tk Sy Sz mG oh aA ae C9 ah aj am7 aJ t=>
   have nk:o'=o:=pb (aA.symm.trans aL);subst nk;have hw:=ML C9 aV.an H;refine⟨λ_=>?_,λaB=>by rw[hw]at aB;cases aB⟩;have gh:qN.made gb c1.n l T∈A:=nh _ (by simp);have aa:=abc _ gh;have ad:=aa4 (show Fe S (Fb es (lq ops) gb) (lE es (lq ops) gb) (RF c1.n l T)=true from aa) e6 gB vt;unfold RF at ad;rw[cB]at ad;obtain⟨FB,ad⟩:=ad;have am8:c1.n<r1.n:=bK FB;split at ad
   ·rename_i cs mq fQ qj;simp only[cB]at ad;obtain⟨be,AH,ad⟩:=ad;have GH:=ed be;subst GH;have aaT:=ed AH;subst aaT;split at ad
    ·rename_i eu ql;obtain⟨abj,fF,fz,l6⟩:=bh.Fg cs l.length 0 _ _ ql;have sF:abj=eu:=pb l6;subst sF;have I2:D c1.n=none:=ho gb c1.n l mq gh rv;refine td (λbL w'=>?_) (DZ aN uP ⟨β,aV⟩ (aaC (K:=λdc C' I' M'=>∃ b us u,I'=I/\M'=⟨b,.cells us.toArray mq (0,0)⟩::M/\I b=none/\(∀ x∈M,x.num≠b)/\bO D l us/\(∀ i,X.E mq=some i->us.length=c*i.size)/\c<=maxLen /\ (∀ (bG:bR) id,bG id=some ⟨b,0,c⟩->aU bG (mk id) u)/\AG o'.dst u F dc) aN kp uP aj (by rw[ah];rfl) sY λb us u dc C' bc bi ca gf n6 LH SA=>⟨b,us,u,rfl,rfl,bc,bi,ca,gf,n6,LH,SA⟩));rintro⟨dc,C',I',M',gL,b,us,u,rfl,rfl,bc,bi,ca,gf,n6,LH,SA⟩;have bf:D.le (D.set c1.n ⟨b,0,c⟩):=bR.AF _ I2;have Da:vp o'.dst (mk c1.n) (D.set c1.n ⟨b,0,c⟩) F dc:=SA.v (LH _ _ (bR.p3 _ _ _));obtain⟨f1,f2⟩:=Fy.an dx aL rv Fz (I3 rfl) bf Da C7 C8;have sE:=Fw ad ca;have g2:∀ id,id≠c1.n->(D.set c1.n ⟨b,0,c⟩) id=D id:=λid kj=>by unfold bR.set;rw[bN kj]
     have IS:∀ id e jh,r1.t.get id=some e->D id=some jh->jh.b≠b:=λid e jh hi hd C4=>by obtain⟨x,C0,AR⟩:=mD.ar hi hd;exact bi x C0 (AR.trans C4)
     refine⟨D.set c1.n ⟨b,0,c⟩,dc,C',I',_,j,r1,gL,abh (by rw[ae];decide),ai,vt,?_,f1,f2,?_,λi hi=>?_⟩
     ·refine⟨λid e jh hi hd=>?_,λid jb e cZ b1 b8 hi cC aa ad C4=>?_,λid jh hd=>?_,mD.qO⟩
      ·by_cases kj:id=c1.n
       ·subst kj;rw[bR.p3]at hd;cases hd;rw[qj]at hi;cases hi;refine .cells us.toArray rfl (by simp) (by simp[ca.len]) (λi v hi aj=>?_) (λi hi=>by simpa using gf i hi) n6;have lk:abj[i]?=some v:=by have:=fz i hi;rw[du,aj]at this;exact this.symm
        obtain⟨x,C0,AR⟩:=sE.get lk;exact⟨x,by simpa using C0,AR.mono bf⟩
       ·rw[g2 id kj]at hd;exact(mD.ja id e jh hi hd).mono bf λx ab _=>nU _ ab
      ·by_cases kj:id=c1.n
       ·by_cases I4:jb=c1.n
        ·rw[kj,I4]
        ·rw[g2 jb I4]at ad;rw[kj,bR.p3]at aa;cases aa;exact(IS jb cZ b8 cC ad C4.symm).elim
       ·rw[g2 id kj]at aa;by_cases I4:jb=c1.n
        ·rw[I4,bR.p3]at ad;cases ad;exact(IS id e b1 hi aa C4).elim
        ·rw[g2 jb I4]at ad;exact mD.inj id jb e cZ b1 b8 hi cC aa ad C4
      ·by_cases kj:id=c1.n
       ·rw[kj];exact am8
       ·rw[g2 id kj]at hd;exact mD.j4 _ _ hd
     ·intro i c' eu Cm rE eK;have am9:c'≠c1.n:=λe=>by
       rcases w6 i c' eu Cm rE with h | h
       ·rcases eI.1 h with h | h
        ·cases h;exact eK (.inr rfl)
        ·have:=(t.MJ.2 i c' eu Cm h).1;have:=am7.1;omega
       ·omega
      rw[g2 c' am9];exact ho i c' eu Cm rE λhi=>eK (.inl hi)
     ·rw[g2 i (by omega)];exact ab i hi
    ·cases ad
   ·cases ad
  | @e i o' bl nd jw m' v df tk Sy Sz mG oh aA ae C9 IV aJ t=>
   have nk:o'=o:=pb (aA.symm.trans aL);subst nk;have hw:=ML C9 aV.an H;refine⟨λ_=>?_,λaB=>by rw[hw]at aB;cases aB⟩;obtain⟨Sx,fB,SB⟩:=Sv ae;have I5:=abi rfl c9 ae;have SC:r1=c1:=by rw[cq,l3 (by omega),I5,mC]at vt;simpa using vt.symm
   subst SC;obtain⟨m2,ana,SD,SE⟩:=t.head;refine td (λbL w'=>?_) (DZ aN uP ⟨β,aV⟩ (IV.2 D F C I M (λdc C' I' M'=>∃ bG,D.ext bG r1.n/\vp o'.dst v bG F dc/\dh (dZ X G pr) bG m' I' M') sY mD λbG dc C' I' M' bc bi ca=>⟨bG,bc,bi,ca⟩));rintro⟨dc,C',I',M',gL,bG,bc,bi,ca⟩;have bf:=mD.le bc;obtain⟨f1,f2⟩:=Fy.an dx aL rv Fz (I3 rfl) bf bi C7 C8;refine⟨bG,dc,C',I',M',j+1,m2,gL,SB,fB,?_,ca.grow SE,f1,f2,λi c l T rE eK=>?_,bR.aa2 ab bc am3⟩;·rw[cq,l3 (by omega),I5,show j+1-j=0+1 by omega,Gy,SD];rfl
   ·rcases w6 i c l T rE with h | h
    ·have:=(t.MJ.2 i c l T h).1;cases I2:bG c with
     |none=>rfl| some b=>have:=ca.j4 _ _ I2;omega
    ·rw[bc c h];exact ho i c l T rE λhi=>eK (.inl hi)
  | @skip i fL o' bl nd jw df tk Sy Sz mG oh aA ae C9 aJ t=>
   have nk:o'=o:=pb (aA.symm.trans aL);subst nk;have hw:=ML C9 aV.an H;refine⟨λaB=>(by rw[hw]at aB;cases aB),λ_=>?_⟩;have rz:Rel X (a.put o'.dst undef) w (put o'.dst (.val undef) F) C I M:=⟨β,aV.put (x:=.val undef) uP rfl⟩;have Da:vp o'.dst (.t []) D F (put o'.dst (.val undef) F):=.put F (.val .undef);by_cases e1:k=2
   ·subst e1;obtain⟨Sx,fB,SB⟩:=Sv ae;have I5:=abi rfl c9 ae;have SC:r1=c1:=by rw[cq,l3 (by omega),I5,mC]at vt;simpa using vt.symm
    subst SC;obtain⟨m2,ana,SD,SE⟩:=t.head;obtain⟨f1,f2⟩:=Fy.an dx aL rv Fz (I3 rfl) (bR.le_refl D) Da C7 C8;refine⟨D,_,C,I,M,j+1,m2,rz,SB,fB,?_,mD.grow SE,f1,f2,λi c l T rE eK=>ho i c l T rE λhi=>eK (.inl hi),ab⟩;rw[cq,l3 (by omega),I5,show j+1-j=0+1 by omega];show(r1::mG)[0+1]?=some m2;rw[Gy,SD];rfl
   ·exact plain (I3 rfl) (by rw[ae];exact e1) (λ_ _ _=>.inr trivial) rz Da
 simpa using key
end
def Db{n:Nat}:∀ {c:Code},ib n c=true->codeOk n c=true
 | .seq x y,h=>by simp only[ib,codeOk,cB]at h |-;exact⟨Db h.1,Db h.2⟩
 | .block _ c,h=>by simp only[ib,codeOk]at h |-;exact Db h
 | .cond _ x y,h=>by simp only[ib,codeOk,cB]at h |-;exact⟨Db h.1,Db h.2⟩
 | .loop c,h=>by simp only[ib,codeOk]at h |-;exact Db h
 | .region _ ops _,h=>h| .scope c,h=>rfl| .rangeFunc ..,h=>rfl| .skip,h | .exit _,h | .label _,h | .goto _,h | .ret,h | .refuse _,h=>rfl
def SF{n:Nat}:∀ {c:Code} {l:Nat} {r:Code},ib n c=true->findLabel c l=some r->ib n r=true
 | .seq x y,l,r,h,ax=>by
  simp only[ib,cB]at h;simp only[findLabel]at ax;split at ax;·rename_i bl af;cases ax;simp only[ib,cB];exact⟨SF h.1 af,h.2⟩
  ·exact SF h.2 ax
 | .label eu,l,r,h,ax=>by
  simp only[findLabel]at ax;split at ax;·cases ax;rfl
  ·cases ax
 | .skip,_,_,_,ax | .exit _,_,_,_,ax | .goto _,_,_,_,ax | .ret,_,_,_,ax | .refuse _,_,_,_,ax | .block _ _,_,_,_,ax | .cond _ _ _,_,_,_,ax | .loop _,_,_,_,ax | .scope _,_,_,_,ax | .region _ _ _,_,_,_,ax | .rangeFunc _ _ _ _,_,_,_,ax=>by simp[findLabel]at ax
def w8(P:Program):Prop:=∀ (g:Nat) (fn:Func) (c:Code),P.funcs[g]?=some fn->fn.body=some c->ib fn.ntmps c=true/\(fn.name == "runtime.NumGoroutine")=false
def anb(P:Program):Bool:=P.funcs.toList.all λfn=>match fn.body with
 |some c=>ib fn.ntmps c && !(fn.name == "runtime.NumGoroutine")
 |none=>true
def anc(h:anb P=true):w8 P:=λg fn c aB ag=>by have aa:=fS.1 h fn (by rw[<-Array.mem_def];exact Array.mem_of_getElem? aB);simp only[ag,cB,tq]at aa;exact aa
def yS(Y:gS):Prop:=∀ g vs m v m',Y.pr g vs m=some (v,m')->∀ (D:bR) (I:aH) (M:List aE) (us:List Value),bO D vs us->dh Y D m I M->Spec Y.P g us I M λr I' M'=>∃ bG,D.ext bG m.n/\aU bG v r/\dh Y bG m' I' M'
def AS:to->Exit
 | .normal=>.normal| .exit id=>.exit id| .goto l=>.goto l| .ret=>.ret
def j6(Y:gS)(n B:Nat)(ay:World)(dQ:aH)(foot:List Nat)(ro:Option Nat):c3:=⟨Y.P,Y.E,List.range n,n,B,ay,dQ,foot,ro⟩
def j6.gC{Y:gS}{n B:Nat}{ay:World}{dQ:aH}{foot:List Nat}{ro:Option Nat}:∀ d,d<(j6 Y n B ay dQ foot ro).n->(j6 Y n B ay dQ foot ro).gC.contains d=true:=λd ah=>by have fE:d<n:=ah;show(List.range n).contains d=true;simpa using fE
def Dc(Y:gS)(f:Nat):Prop:=∀ gT n c an m ex df m',lF Y f gT n c an m=some (ex,df,m')->ib n c=true->∀ B ay dQ foot ro D0 n0 a w,(gT=true->ro=none)->lH (j6 Y n B ay dQ foot ro) Y.G Y.pr D0 n0 an m a w -> c.wpIn (g8 (j6 Y n B ay dQ foot ro)) 0 Y.P (λe a w=>e=AS ex/\lH (j6 Y n B ay dQ foot ro) Y.G Y.pr D0 n0 df m' a w) a w
def SG{α:Type}:∀ (n k:Nat),(bh.bare n:bh α).get k=none
 |0,k=>rfl
 |n+1,k=>by
  rw[bh.bare,bh.Iy];cases Nat.beq k 0 with
  |true=>rfl
  |false=>
   cases Nat.beq (k%2) 1 with
   |true=>exact SG n _| false=>exact SG n _
section
variable{X:c3}{G:GT}{pr:mb}{D:bR}{m:bw}{F:Fr}{an:bh ap}{C:dN}{I:aH}{M:List aE}
def SH(bE:qP D F an)(hm:dh (dZ X G pr) D m I M):∀ {a':List ResultVar} {vs:List ap} {K:List Value->Prop},Ax (dZ X G pr) an m.t a'=some vs->(∀ us,bO D vs us->K us)->pE X F C I M a' K
 |[],vs,K,h,ae=>by simp only[Ax]at h;cases h;exact ae [] .nil
 | .tmp t::l,vs,K,h,ae=>by
  simp only[Ax]at h;split at h;·rename_i v tk aa ad;cases h;obtain⟨u,aI,bc⟩:=(show gx D (dq F (.tmp t)) v from bE t v aa).dE;unfold pE;rw[aI];exact SH bE hm ad λus fN=>ae _ (.cons bc fN)
  ·cases h
 | .cell t ty::l,vs,K,h,ae=>by
  simp only[Ax]at h;split at h
  ·rename_i x i tk aa ad ak;split at h
   ·rename_i v aj;cases h;have yJ:∀ q,x≠.b q:=λq e=>by subst e;cases aj
    obtain⟨u,aI,bc⟩:=gx.wZ (bE t x aa:gx D (dq F (.tmp t)) x) yJ;obtain⟨aM,eu,FC,rfl,bp,ax,aJ⟩:=w0 hm bc aj;have oQ:X.E ty=some i:=ad;have ez:dq F (.tmp t)=.val (.pointer (some aM)):=aI;unfold pE;rw[ez,oQ];exact⟨FC,bp,SH bE hm ak λus fN=>ae _ (.cons (Mu aJ ax) fN)⟩
   ·cases h
  ·cases h
end
def abk(aN:cW Y.P Y.E)(bE:w8 Y.P)(nj:yS Y)(ao:Dc Y f){m:bw}{v:ap}{fn:Func}{c:Code}(aB:Y.P.funcs[g]?=some fn)(ag:fn.body=some c)(bf:args.length<=fn.ntmps){an df:bh ap}(xH:∀ t w,an.get t=some w->args[t]?=some w){c1:bw}(hex:ex=.normal\/ex=.ret)(h:lF Y f true fn.ntmps c an m=some (ex,df,c1)){vs:List ap}(af:Ax Y df c1.t fn.results.toList=some vs)
  (aj:v=Z4 vs) (hu:bO D args us) (hm:dh Y D m I M):v7 Y.P g us I M λr I' M'=>∃ bG,D.ext bG m.n/\aU bG v r/\dh Y bG c1 I' M':=by
 obtain⟨bg,mu⟩:=bE g fn c aB ag;refine O0 (List.range fn.ntmps) aN aB ag mu ?_ λB ay a w aV=>?_
 ·rw[cB];exact⟨Db bg,EY (by rw[hu.len];exact bf)⟩
 ·have ane:qP D (xP us) an:=λt w hw=>by obtain⟨x,aa,ad⟩:=hu.get (xH t w hw);refine .inl ⟨x,?_,ad⟩;simp only[xP,aa]
  have fu:lH (j6 Y fn.ntmps B ay I (M.map (·.num)) none) Y.G Y.pr D m.n an m a w:=⟨D,_,_,I,M,aV,ane,hm,bR.pe,b' _⟩;refine wpIn_mono (ao _ _ _ _ _ _ _ _ h bg B ay I (M.map (·.num)) none D m.n a w (λ_=>rfl) fu) ?_;rintro e bL w'⟨rfl,bG,dc,C',I',M',rz,mR,sv,ab,aD⟩;have HT:∀ C3,C3=.normal\/C3=.ret->wc (j6 Y fn.ntmps B ay I (M.map (·.num)) none) fn.results.toList (λr I' M'=>∃ bG,D.ext bG m.n/\aU bG v r/\dh Y bG c1 I' M') C3 dc C' I' M':=λC3 he=>by
   have FD:=SH (X:=j6 Y fn.ntmps B ay I (M.map (·.num)) none) (G:=Y.G) (pr:=Y.pr) (C:=C') mR sv af (K:=λvs=>match vs with
    |[vm]=>wb (M.map (·.num)) I' M' ((λr I' M'=>∃ bG,D.ext bG m.n/\aU bG v r/\dh Y bG c1 I' M') vm)
    |vs=>wb (M.map (·.num)) I' M' ((λr I' M'=>∃ bG,D.ext bG m.n/\aU bG v r/\dh Y bG c1 I' M') (.tuple vs.toArray))) λFC fN=>by
     clear af
     match vs,FC,fN,aj with
     |[],FC,fN,aj=>rw[fN.nW];refine⟨I',M',.refl,bG,ab,?_,sv⟩;rw[aj];exact .Mt .nil| [v1],FC,fN,aj=>obtain⟨x,xs,aa,ad,rfl⟩:=fN.kB;rw[ad.nW];refine⟨I',M',.refl,bG,ab,?_,sv⟩;rw[aj];exact aa
     |v1::v2::vs,FC,fN,aj=>obtain⟨x,xs,aa,ad,rfl⟩:=fN.kB;obtain⟨y,ys,ak,aK,rfl⟩:=ad.kB;refine⟨I',M',.refl,bG,ab,?_,sv⟩;rw[aj];exact .Mt fN
   rcases he with rfl | rfl<;>exact FD
  rcases hex with rfl | rfl;·exact⟨dc,C',I',M',rz,HT _ (.inl rfl)⟩
  ·exact⟨dc,C',I',M',rz,HT _ (.inr rfl)⟩
def Spec.mH{args:List Value}{p q:Value->aH->List aE->Prop}(h:Spec P f args I M p)(ae:∀ v I' M',p v I' M'->q v I' M'):Spec P f args I M q:=by
 rcases h with⟨aa,ad⟩ | h
 ·refine .inl ⟨aa,λw hw=>?_⟩;refine(ad w hw).mono ?_;rintro e w'⟨v,I',M',aI,a6,cq,dS⟩;exact⟨v,I',M',aI,ae _ _ _ a6,cq,dS⟩
 ·refine .inr λw hw=>?_;obtain⟨v,w',I',M',aI,a6,cq,dS⟩:=h w hw;exact⟨v,w',I',M',aI,ae _ _ _ a6,cq,dS⟩
section
variable{Y:gS}{D:bR}{m m':bw}{I:aH}{M:List aE}
def abl(aN:cW Y.P Y.E)(bE:w8 Y.P)(nj:yS Y)(ao:Dc Y f){v:ap}(h:Mj Y (lF Y f) g args m=some (v,m'))(hu:bO D args us)(hm:dh Y D m I M) :
  v7 Y.P g us I M λr I' M'=>∃ bG,D.ext bG m.n/\aU bG v r/\dh Y bG m' I' M':=by
 unfold Mj at h;obtain⟨fn,aB,aa⟩:=ct h;obtain⟨c,ag,ad⟩:=ct aa;obtain⟨bf,ak⟩:=fY ad;obtain⟨an,bc,bi⟩:=bh.yI args (bh.bare 12) 0;rw[bc]at ak;have xH:∀ t w,an.get t=some w->args[t]?=some w:=λt w hw=>by
  rcases bi t w hw with⟨_,h⟩ | ⟨_,h⟩;·simpa using h
  ·rw[SG]at h;cases h
 unfold Z5 at ak;split at ak
 ·rename_i df c1 ab;unfold Mi at ak;obtain⟨vs,af,aK⟩:=ct ak;cases aK;exact abk aN bE nj ao aB ag (bK bf) xH (.inl rfl) ab af rfl hu hm
 ·rename_i df c1 ab;unfold Mi at ak;obtain⟨vs,af,aK⟩:=ct ak;cases aK;exact abk aN bE nj ao aB ag (bK bf) xH (.inr rfl) ab af rfl hu hm
 ·cases ak
def abm(aN:cW Y.P Y.E)(bE:w8 Y.P)(nj:yS Y)(ao:Dc Y f){v:ap}(h:yH Y (lF Y f) g args m=some (v,m'))(hu:bO D args us)(hm:dh Y D m I M) :
  Spec Y.P g us I M λr I' M'=>∃ bG,D.ext bG m.n/\aU bG v r/\dh Y bG m' I' M':=by
 unfold yH at h;cases aJ:Y.pr g args m with
 |none=>rw[aJ]at h;exact .inl (abl aN bE nj ao h hu hm)| some p=>rw[aJ]at h;have bq:some p=some (v,m'):=h;cases bq;exact nj g args m v m' aJ D I M us hu hm
def cN.kept{a:Act}{W:World}{C:dN}(h:cN X β a w F C I' M')(aa:X.ay=W)(ad:X.B=W.heap.size)(ak:X.dQ=dQ)(aK:X.foot=M0.map (·.num)):Kept dQ M0 W I' M' w where
 le:=by rw[<-ak];exact h.il
 uE b o ag:=by
  rcases h.hT b o ag with bz | bz;·exact .inl (by rw[<-ak];exact bz)
  ·exact .inr (by rw[<-ad];exact bz)
 v5 x ab:=by
  rcases h.own x ab with bz | bz;·rw[aK]at bz;obtain⟨y,aC,e⟩:=cP.1 bz;exact .inl ⟨y,aC,e⟩
  ·exact .inr (by rw[<-ad];exact bz)
 dO b ag aD:=by rw[<-aa];refine h.dO b (by rw[ad];exact ag) λhm=>?_;rw[aK]at hm;obtain⟨y,aC,e⟩:=cP.1 hm;exact aD y aC e
 out:=by rw[<-aa];exact h.out
 sz:=by rw[<-ad];exact h.sz
def abn{R:Type}:∀ {ps:List Nat} {args:List ap} {nd:bh ap} {K:bh ap->Option R} {r:R} {us:List Value} {tmps:Array Value},Ff ps args nd K=some r->bO D args us->(∀ t∈ps,t<tmps.size)->(∀ t v,nd.get t=some v->aU D v (tmps.getD t undef)) -> ∃ fJ,K fJ=some r/\us.length=ps.length/\((ps.zip us).foldl (λ(tmps:Array Value) (p:Nat×Value)=>tmps.setIfInBounds p.1 p.2) tmps).size=tmps.size /\ ∀ t v,fJ.get t=some v->aU D v (((ps.zip us).foldl (λ(tmps:Array Value) (p:Nat×Value)=>tmps.setIfInBounds p.1 p.2) tmps).getD t undef)
 |[],[],nd,K,r,us,tmps,h,hu,aJ,ay=>by have:=hu.nW;subst this;exact⟨nd,h,rfl,rfl,ay⟩
 |[],_::_,nd,K,r,us,tmps,h,hu,aJ,ay=>by simp[Ff]at h
 |_::_,[],nd,K,r,us,tmps,h,hu,aJ,ay=>by simp[Ff]at h
 |t0::ps,w9::args,nd,K,r,us,tmps,h,hu,aJ,ay=>by
  obtain⟨x,xs,bc,bi,rfl⟩:=hu.kB;simp only[Ff]at h;obtain⟨fJ,aa,ad⟩:=bh.o7 (some w9) nd t0;rw[aa]at h;have aZ:=aJ t0 (by simp);obtain⟨vv,ak,aK,bz,cu⟩:=abn (tmps:=tmps.setIfInBounds t0 x) h bi (λt aq=>by simpa using aJ t (by simp[aq])) λt v aq=>by
   rw[pz,DR];rcases ad t v aq with⟨rfl,e⟩ | ⟨bt,aw⟩;·have:=(pb e);subst this;simp only[sj,aZ];exact bc
   ·rw[bN (si bt),<-pz];exact ay t v aw
  exact⟨vv,ak,by simp[aK],by simpa using bz,cu⟩
def lG.MP{a:Loc}{an:bh ap}(h:lG D E M a (.loop b n an ps fk body)):∃ L,(⟨a.b,.loop L⟩:aE)∈M/\aad D b n an ps fk body L:=by
 cases h with
 |loop L aa ad=>exact⟨L,aa,ad⟩
def lG.anf{a:Loc}{c:Code}{an:bh ap}(h:lG D E M a (.done c n an ps fk body)):∃ L,(⟨a.b,.loop L⟩:aE)∈M/\L.state=.done/\L.pending=some c:=by
 cases h with
 |done L aa ad ak=>exact⟨L,aa,ad,ak⟩
def dh.swap(h:dh Y D m I M){bn:bh fw}{l:Nat}{dy aI:fw}{o o':Obj}{Mr:List aE}(aw:m.t.get l=some dy)(a7:D l=some ju)(ba:M.Perm (⟨ju.b,o⟩::Mr))(aq:∀ id e,bn.get id=some e->(id=l/\some aI=some e)\/(id≠l/\m.t.get id=some e))
  (he:lG D Y.E (⟨ju.b,o'⟩::Mr) ju aI):dh Y D ⟨bn,m.n⟩ I (⟨ju.b,o'⟩::Mr):=by
 refine h.step (λid e hi=>(aq id e hi).imp (λq=>⟨q.1,pb q.2⟩) λq=>q) a7 (bR.le_refl D) (λ_ _=>rfl) h.j4 (λ_ _ h=>h) (λid e bL bt hi qR x ab aD=>?_) he λid e bL bt hi qR ag=>bt (h.inj _ _ _ _ _ _ hi aw qR a7 ag);rcases eI.1 (ba.mem_iff.1 ab)with rfl | ab
 ·exact(bt (h.inj _ _ _ _ _ _ hi aw qR a7 aD.symm)).elim
 ·exact nU _ ab
end
section
variable{Y:gS}{D:bR}{m m':bw}{I:aH}{M:List aE}
def ang(ao:Dc Y f){l:Nat}{v:ap}(h:RL (lF Y f) l args m=some (v,m'))(ax:D l=some ju)(hu:bO D args us)(hm:dh Y D m I M) :
  D' Y.P ju.b us I M λr I' M'=>∃ bG,D.ext bG m.n/\aU bG v r/\dh Y bG m' I' M':=by
 unfold RL at h;split at h
 ·rename_i n nd ps fk body aw;obtain⟨L,ba,bY⟩:=(hm.ja _ _ _ aw ax).MP;intro W iD;have Hj:W.heap[ju.b]?=some (.loop L):=iD.m _ ba;have fu:L.state=.ready:=bY.a0;have wj:∀ t∈ps,t<L.tmps.size:=λt aq=>by rw[bY.sz];exact bY.op t (by rw[bY.ps];exact aq)
  obtain⟨fJ,aa,cS,dn,abo⟩:=abn (tmps:=L.tmps) h hu wj bY.an;have wG:L.params.size=ps.length:=by rw[<-bY.ps];simp
  refine⟨_,_,_,_,run_yield Hj (by rw[wG];simpa using cS),?_⟩;have ir:(L.params.zip us.toArray).foldl (λtmps (x:Nat×Value)=>match x with | (t,a)=>tmps.setIfInBounds t a) L.tmps=(ps.zip us).foldl (λ(tmps:Array Value) (p:Nat×Value)=>tmps.setIfInBounds p.1 p.2) L.tmps:=by rw[<-OJ,<-bY.ps];simp
  rw[ir];generalize be:(ps.zip us).foldl (λ(tmps:Array Value) (p:Nat×Value)=>tmps.setIfInBounds p.1 p.2) L.tmps=T at abo dn;rw[bY.fk,bY.body];have oi:ib n fk=true:=by rw[<-bY.fk];exact bY.Ch
  have MG:ib n body=true:=by rw[<-bY.body];exact bY.nF
  refine roundIn_of_wpIn (F:=Fence.wide) (n:=0) trivial ?_;let wv:c3:=j6 Y n W.heap.size W I (M.map (·.num)) (some ju.b)
  have GU:cN wv (λ_=>0) { tmps:=T,defers:=[] } W (λt=>.val (T.getD t undef)) (λ_=>none) I M:={
   size:=dn.trans bY.sz
   defers:=⟨[],rfl,zp,λr af=>by cases af⟩
   holds:=iD
   an:=λt=>rfl
   cm:=λs cs av=>by cases av
   inj:=λs cg aa=>by simp at aa
   il:=λb o ag=>ag
   hT:=λb o ag=>.inl ag
   own:=λx ab=>.inl (cP.2 ⟨x,ab,rfl⟩)
   dO:=λb ag aB=>rfl
   out:=.refl _
   sz:=b' _
   fx:=λx ab=>by
    obtain⟨y,aC,rfl⟩:=cP.1 ab;exact(lR.1 (iD.m y aC)).1 }
  unfold Z7 at aa;split at aa
  ·rename_i vv m2 anh;have gg:lH wv Y.G Y.pr D m.n fJ m { tmps:=T,defers:=[] } W:=⟨D,_,_,I,M,⟨_,GU⟩,λt v aj=>.val (abo t v aj),hm,bR.pe,b' _⟩;refine wpIn_mono (ao _ _ _ _ _ _ _ _ anh oi _ _ _ _ _ D m.n _ _ (λe=>by cases e) gg) ?_;rintro e cQ jE⟨rfl,SI,abp,abq,eA,dD,⟨abr,m3⟩,MQ,Ef,AR,jy⟩;have sF:SI l=some ju:=by rw[AR l (hm.j4 _ _ ax)];exact ax
   have ad:RJ (lF Y f) l n body (m2.t.get l) vv m2=some (v,m'):=aa;unfold RJ at ad;split at ad
   ·rename_i gw ani FE anj RK m6;obtain⟨jL,abt,oj⟩:=(Ef.ja _ _ _ m6 sF).MP;obtain⟨a9,post,c9⟩:=vf abt;have mE:dD.Perm (⟨ju.b,.loop jL⟩::(a9++post)):=by rw[c9];exact na
    have abu:jE.heap[ju.b]?=some (.loop jL):=m3.holds.m _ abt;have ank:=(lR.1 abu).1;refine⟨_,run_beginRound abu oj.a0,?_⟩;obtain⟨t3,ak,aK⟩:=bh.o7 (some (fw.loop true gw ani FE anj RK)) m2.t l;rw[ak]at ad;have yT:cN wv abr cQ (jE.putObj ju.b (.loop { jL with state:=.busy })) abp abq eA (⟨ju.b,.loop { jL with state:=.busy }⟩::(a9++post)):=
     (m3.h7 (.perm mE .refl)).swap (by simp) (D3 ank) (λb ag=>nA ag) (KD _ _ _)
    have p6:dh Y SI ⟨t3,m2.n⟩ eA (⟨ju.b,.loop { jL with state:=.busy }⟩::(a9++post)):=Ef.swap m6 sF mE aK (.loop { jL with state:=.busy } (by simp) ⟨rfl,oj.qu,oj.sz,oj.an,oj.ps,oj.fk,oj.body,oj.Ch,oj.nF,oj.op⟩);unfold Z6 at ad;obtain⟨⟨ex,av5,MR⟩,H',bz⟩:=ct ad;have zL:lH wv Y.G Y.pr D m.n vv ⟨t3,m2.n⟩ cQ (jE.putObj ju.b (.loop { jL with state:=.busy })):=⟨SI,abp,abq,eA,_,⟨abr,yT⟩,MQ,p6,AR,jy⟩;refine wpIn_mono (ao _ _ _ _ _ _ _ _ H' MG _ _ _ _ _ D m.n _ _ (λe=>by cases e) zL) ?_;rintro e hb ke⟨rfl,abv,anl,anm,qv,rB,⟨ann,MS⟩,av6,abw,abx,aby⟩;have MT:abv l=some ju:=by rw[abx l (hm.j4 _ _ ax)];exact ax
    have cu:RI l (MR.t.get l) (Eb ex) MR=some (v,m'):=bz;unfold RI at cu;split at cu
    ·rename_i abz abA abB abC abD Ey;obtain⟨SJ,yU,ua⟩:=(abw.ja _ _ _ Ey MT).MP;obtain⟨abE,abF,ano⟩:=vf yU;have abG:rB.Perm (⟨ju.b,.loop SJ⟩::(abE++abF)):=by rw[ano];exact na
     have abH:ke.heap[ju.b]?=some (.loop SJ):=MS.holds.m _ yU;have anp:=(lR.1 abH).1;obtain⟨t5,ep,fa⟩:=bh.o7 (some (bu (Eb ex) (fw.loop false abz abA abB abC abD) λc=>fw.done c abz abA abB abC abD)) MR.t l;rw[ep]at cu;cases cu;have fin:∀ jump,Eb ex=jump->∃ vm w',(Instr.endRound ju.b jump).run Y.P ke=.ok vm w'/\∃ r I' M',Ending.returned vm=.returned r/\(∃ bG,D.ext bG m.n/\aU bG (.b (Eb ex).isNone) r/\dh Y bG ⟨t5,MR.n⟩ I' M')/\eM I' M' w'/\Kept I M W I' M' w':=by
      rintro jump ai;let MU:Loop:={ SJ with state:=if jump.isNone then .ready else .done,pending:=jump }
      have MV:cN wv ann hb (ke.putObj ju.b (.loop MU)) anl anm qv (⟨ju.b,.loop MU⟩::(abE++abF)):=
       (MS.h7 (.perm abG .refl)).swap (by simp) (D3 anp) (λb ag=>nA ag) (KD _ _ _)
      refine⟨_,_,run_endRound jump abH,_,qv,_,rfl,⟨abv,abx,?_,abw.swap Ey MT abG fa ?_⟩,MV.holds,MV.kept rfl rfl rfl rfl⟩;·rw[ai];simp[aU]
      ·rw[ai];cases jump with
       |none=>exact .loop MU (by simp) ⟨rfl,rfl,ua.sz,ua.an,ua.ps,ua.fk,ua.body,ua.Ch,ua.nF,ua.op⟩| some c=>exact .done MU (by simp) rfl rfl
     cases ex with
     |normal=>exact fin none rfl| exit id=>exact fin _ rfl| goto t=>exact fin _ rfl| ret=>exact fin _ rfl
    ·cases cu
   ·cases ad
  ·cases aa
 ·cases h
end
section
variable{Y:gS}
def anq(aN:cW Y.P Y.E)(bE:w8 Y.P)(nj:yS Y)(ao:Dc Y f):IT Y (Mk Y (lF Y f)):=λamz l m v m' h D I M u us zs fN hm=>by
 unfold Mk at h;split at h
 ·rename_i g cV cs;simp only[aU]at zs;obtain⟨vs,ws,aa,ad,rfl⟩:=zs;refine .inl ⟨g,_,_,rfl,?_⟩;have:=abm aN bE nj ao h (aa.append (fN.append ad)) hm;simpa using this
 ·rename_i q;simp only[aU]at zs;obtain⟨ju,aa,rfl⟩:=zs;exact .inr ⟨ju.b,rfl,ang ao h aa fN hm⟩
 ·cases h
def lH.world{an:bh ap}{m:bw}{a:Act}(h:lH X G pr D0 n0 an m a w):∃ D F β,(∀ t,e4 β (F t) (a.tmps.getD t undef))/\qP D F an:=by obtain⟨D,F,C,I,M,⟨β,aV⟩,bE,_⟩:=h;exact⟨D,F,β,aV.an,bE⟩
def lH.eval{an:bh ap}{m:bw}{a:Act}(h:lH X G pr D0 n0 an m a w)(ab:dw an x=some (.b b)):a.eval x=.bool b:=by obtain⟨D,F,β,aa,ad⟩:=h.world;obtain⟨u,aI,bc⟩:=(ad.op [x]).bH (x:=x) (by simp) ab;rw[dj aa aI,bc.bool]
def gx.ok{x:dH}{v:ap}(h:gx D x v)(ab:e4 β x u):aU D v u:=by
 rcases h with⟨y,rfl,h⟩ | ⟨q,rfl,rfl⟩
 ·have:u=y:=ab;subst this;exact h
 ·have:u=.bool q:=ab;subst this;simp[aU]
def anr(aN:cW Y.P Y.E)(bE:w8 Y.P)(nj:yS Y)(ao:Dc Y f){gT:Bool}{ps:Array Tmp}{an df:bh ap}{m m':bw}(h:RN Y (lF Y f) gT n (dw an x) ps.toList fk body an m=some (ex,df,m'))(bg:ib n (.rangeFunc x ps fk body)=true){B:Nat}{ay:World}{foot:List Nat}{ro:Option Nat}{a:Act}(jj:gT=true->ro=none)(av:lH (j6 Y n B ay dQ foot ro) Y.G Y.pr D0 n0 an m a w) :
  (Code.rangeFunc x ps fk body).wpIn (g8 (j6 Y n B ay dQ foot ro)) 0 Y.P (λe a w=>e=AS ex/\lH (j6 Y n B ay dQ foot ro) Y.G Y.pr D0 n0 df m' a w) a w:=by
 unfold RN at h;split at h
 ·rename_i g cap ab;have Pl:=jj rfl;subst Pl;obtain⟨D,F,C,I,M,⟨β,aV⟩,SK,hm,fM,qy⟩:=av;obtain⟨u,aI,bc⟩:=(SK.op [x]).bH (x:=x) (by simp) ab;simp only[aU]at bc;obtain⟨vs,ws,aa,ad,rfl⟩:=bc;have iO:=aa.nW;subst iO;simp only[ib,cB]at bg;obtain⟨t1,ak,aK⟩:=IL h;refine wpIn_rangeFunc λfn _=>?_;let gE:Loop:={ state:=.ready,pending:=none,fn:=fn,tmps:=a.tmps,params:=ps,assign:=fk,body:=body,defers:=w.heap.size }
  let l:=w.heap.size+1
  let mY:World:=(w.alloc (.deferred (some []))).alloc (.loop gE)
  have B5:=aV.WA.n2 (.loop gE);have ax:(w.alloc (.deferred (some []))).heap.size=l:=by simp[l]
  rw[ax]at B5;have ans:∀ q∈M,q.num≠l:=λq aL e=>by have:=aV.holds.lt aL;omega
  have abI:dh Y (D.set m.n ⟨l,0,0⟩) ⟨t1,m.n+1⟩ I (⟨l,.loop gE⟩::M):=hm.new (a:=⟨l,0,0⟩) ak ans (.loop gE (by simp) ⟨rfl,rfl,aV.size,λt v aq=>((SK t v aq).ok (aV.an t)).mono (bR.AF _ hm.fresh),rfl,rfl,rfl,bg.1,bg.2.1,λt aq=>bK (fS.1 bg.2.2 t aq)⟩);unfold Z' at aK;obtain⟨⟨v,m2⟩,mZ,bz⟩:=ct aK;have abJ:=bR.AF (D:=D) ⟨l,0,0⟩ hm.fresh;have nb:bO (D.set m.n ⟨l,0,0⟩) (.y m.n::cap) (.func (.yield l) #[] #[]::ws):=.cons (by simp only[aU];exact⟨_,bR.p3 _ _ _,rfl⟩) (ad.mono abJ);obtain⟨qj,BT⟩:=abl aN bE nj ao mZ nb abI;have ant:=BT mY B5.holds;have a6:=dj aV.an aI;refine⟨l,[xF w.heap.size],mY,{ target:=.fn (.func g) ws.toArray,args:=#[.func (.yield l) #[] #[]] },mY,g,(.func (.yield l) #[] #[]::ws).toArray,mY,?_,?_,λ_ _=>trivial,?_,(λh=>by cases h),?_⟩;·show(Instr.enterLoop fn a.tmps ps fk body none).run Y.P w=_;exact run_enterLoop_outer fn a.tmps ps fk body
  ·show(Deferred.ofValue (a.eval x) (#[Operand.const (.func (.yield l) #[] #[])].map a.eval)).run Y.P mY=_;rw[a6];simp[Deferred.ofValue,Act.eval]
  ·simp only[invoke];rw[show #[Value.func (.yield l) #[] #[]]++ws.toArray=(.func (.yield l) #[] #[]::ws).toArray from by apply gX;simp];exact qj _ _
  ·refine(OV (X:=j6 Y n B ay dQ foot none) ant _).mono ?_;rintro e oN⟨r,lu,oM,rfl,⟨I6,SL,HW,p6⟩,abK,I7⟩;have sw:=B5.after (Mr:=[]) (by simp) abK I7;rw[dF]at sw;have pK:I6 m.n=some ⟨l,0,0⟩:=by rw[SL m.n (BC _)];exact bR.p3 _ _ _
   have AT:=abI.le SL;have anu:qP I6 F an:=λt v aq=>(SK t v aq).mono (bR.le_trans abJ AT);have anv:D0.ext I6 n0:=λi hi=>by
    have ft:i<m.n+1:=by
     have:i<m.n:=by omega
     omega
    rw[SL i ft];show(if i=m.n then _ else D i)=D0 i;rw[bN (by omega)];exact fM i hi
   have fin:∀ (L:Loop) (t4:bh fw) (j:Option Code),(⟨l,.loop L⟩:aE)∈oM->L.state≠.busy->L.pending=j->(∃ dy,m2.t.get m.n=some dy)->(∀ id e,t4.get id=some e->(id=m.n/\(none:Option fw)=some e)\/(id≠m.n/\m2.t.get id=some e))->n0<=m2.n ->
     ∃ ke,(Instr.endLoop l).run Y.P oN=.ok j ke/\lH (j6 Y n B ay dQ foot none) Y.G Y.pr D0 n0 an ⟨t4,m2.n⟩ { a with defers:=[xF w.heap.size]++a.defers } ke:=by
    rintro L t4 j bY ag aJ⟨dy,anw⟩Qp aby;have anx:oN.heap[l]?=some (.loop L):=abK.m _ bY;obtain⟨a9,post,c9⟩:=vf bY;have mE:oM.Perm (⟨l,.loop L⟩::(a9++post)):=by rw[c9];exact na
    have jX:∀ i e9,t4.get i=some e9->i≠m.n/\m2.t.get i=some e9:=λi e9 hi=>by
     rcases Qp i e9 hi with⟨_,fa⟩ | fa;·cases fa
     ·exact fa
    have MS:=(sw.h7 (.perm mE .refl)).Hi (o':=.loop { L with state:=.exhausted });refine⟨_,(by rw[<-aJ];exact run_endLoop anx ag),I6,F,C,lu,a9++post,⟨β,MS⟩,anu,⟨λi e9 b hi hd=>?_,λi gU e9 AM b jh hi cC=>p6.inj i gU e9 AM b jh (jX i e9 hi).2 (jX gU AM cC).2,p6.j4,p6.qO⟩,anv,aby⟩;refine(p6.ja i e9 b (jX i e9 hi).2 hd).mono (bR.le_refl I6) λq aL aD=>?_;rcases eI.1 (mE.mem_iff.1 aL)with rfl | aL;·exact((jX i e9 hi).1 (p6.inj _ _ _ _ _ _ (jX i e9 hi).2 anw hd pK aD.symm)).elim
    ·exact aL
   have jy:∀ {dy:fw},m2.t.get m.n=some dy->n0<=m2.n:=λ_=>by have:=p6.j4 _ _ pK;omega
   have cu:(match m2.t.get m.n with
    |some (.loop false ..)=>m2.t.nV none m.n λt=>some (to.normal,an,(⟨t,m2.n⟩:bw))
    |some (.done c ..)=>bu (RM c) none λex=>m2.t.nV none m.n λt=>some (ex,an,⟨t,m2.n⟩)
    |_=>none)=some (ex,df,m'):=bz
   split at cu;·rename_i eP anz anA anB anC sE;obtain⟨L,bY,abL⟩:=(p6.ja _ _ _ sE pK).MP;obtain⟨t4,ep,fa⟩:=bh.o7 (none:Option fw) m2.t m.n;rw[ep]at cu;cases cu;obtain⟨ke,dR,qB⟩:=fin L t4 none bY (by rw[abL.a0];simp) abL.qu ⟨_,sE⟩ fa (jy sE);exact⟨none,ke,dR,rfl,qB⟩
   ·rename_i c eP anz anA anB anC sE;obtain⟨L,bY,fu,SM⟩:=(p6.ja _ _ _ sE pK).anf;obtain⟨C3,hex,cu⟩:=ct cu;obtain⟨t4,ep,fa⟩:=bh.o7 (none:Option fw) m2.t m.n;rw[ep]at cu;cases cu;obtain⟨ke,dR,qB⟩:=fin L t4 (some c) bY (by rw[fu];simp) SM ⟨_,sE⟩ fa (jy sE);refine⟨some c,ke,dR,?_⟩;unfold RM at hex;split at hex
    ·cases hex;exact wpIn_exit ⟨rfl,qB⟩
    ·cases hex;exact wpIn_goto ⟨rfl,qB⟩
    ·cases hex;exact wpIn_ret ⟨rfl,qB⟩
    ·cases hex
   ·cases cu
 ·cases h
end
section
variable{Y:gS}
def abM{next:Act->World->Prop}{a:Act}(h:Q (AS ex) a w)(bt:ex≠.normal):Exit.then next Q (AS ex) a w:=by cases ex<;>first | exact(bt rfl).elim | exact h
def anD(aN:cW Y.P Y.E)(bE:w8 Y.P)(nj:yS Y)(iC:Y.P.follows .mixedOrders=true):∀ f k,k<=f->Dc Y k:=by
 intro f
 induction f with
 |zero=>
  intro k ae gT n c an m ex df m' h;have:k=0:=by omega
  subst this;cases h
 |succ f aQ=>
  intro k ae;by_cases Ak:k<=f;·exact aQ k Ak
  have tH:k=f+1:=by omega
  subst tH;have ao:=aQ f (b' _);have mZ:=anq aN bE nj ao;intro gT n c an m ex df m' h bg B ay dQ foot ro D0 n0 a w jj av;have aa:RO Y f (lF Y f) gT n c an m=some (ex,df,m'):=h;have kp:=@j6.gC Y n B ay dQ foot ro;unfold RO at aa;cases c with
  |skip=>cases aa;exact wpIn_skip ⟨rfl,av⟩| label l=>cases aa;exact wpIn_label ⟨rfl,av⟩| ret=>cases aa;exact wpIn_ret ⟨rfl,av⟩| exit id=>cases aa;exact wpIn_exit ⟨rfl,av⟩| goto l=>cases aa;exact wpIn_goto ⟨rfl,av⟩| refuse s=>cases aa
  |seq x y=>
   simp only[ib,cB]at bg;simp only[Iw]at aa;split at aa;·rename_i fJ c1 ab;refine wpIn_seq (wpIn_mono (ao _ _ _ _ _ _ _ _ ab bg.1 B ay dQ foot ro D0 n0 a w jj av) ?_);rintro e cQ jE⟨rfl,gg⟩;exact ao _ _ _ _ _ _ _ _ aa bg.2 B ay dQ foot ro D0 n0 cQ jE jj gg
   ·rename_i eK;refine wpIn_seq (wpIn_mono (ao _ _ _ _ _ _ _ _ aa bg.1 B ay dQ foot ro D0 n0 a w jj av) ?_);rintro e cQ jE⟨rfl,gg⟩;exact abM ⟨rfl,gg⟩ λe=>eK df m' (by rw[aa,e])
  |block id c=>
   simp only[ib]at bg;simp only[Z8]at aa;split at aa
   ·rename_i j fJ c1 ab;refine wpIn_block (wpIn_mono (ao _ _ _ _ _ _ _ _ ab bg B ay dQ foot ro D0 n0 a w jj av) ?_);rintro e cQ jE⟨rfl,gg⟩;simp only[AS,Exit.inBlock];by_cases ai:j=id
    ·subst ai;rw[q6]at aa;have ad:some (to.normal,fJ,c1)=some (ex,df,m'):=aa;cases ad;rw[bT rfl];exact⟨rfl,gg⟩
    ·rw[hI ai]at aa;have ad:some (to.exit j,fJ,c1)=some (ex,df,m'):=aa;cases ad;rw[bN ai];exact⟨rfl,gg⟩
   ·rename_i eK;refine wpIn_block (wpIn_mono (ao _ _ _ _ _ _ _ _ aa bg B ay dQ foot ro D0 n0 a w jj av) ?_);rintro e cQ jE⟨rfl,gg⟩;cases ex with
    |exit j=>exact(eK j df m' aa).elim| normal=>exact⟨rfl,gg⟩| goto l=>exact⟨rfl,gg⟩| ret=>exact⟨rfl,gg⟩
  |cond x fF fz=>
   simp only[ib,cB]at bg;simp only[Z9]at aa;split at aa
   ·rename_i b ab;refine wpIn_cond (av.eval ab) ?_;cases b with
    |true=>exact ao _ _ _ _ _ _ _ _ aa bg.1 B ay dQ foot ro D0 n0 a w jj av| false=>exact ao _ _ _ _ _ _ _ _ aa bg.2 B ay dQ foot ro D0 n0 a w jj av
   ·cases aa
  |loop c=>
   simp only[ib]at bg;let J (k:Nat) (a:Act) (w:World):Prop:=k<=f+1/\∃ fJ c1,lF Y k gT n (.loop c) fJ c1=some (ex,df,m')/\lH (j6 Y n B ay dQ foot ro) Y.G Y.pr D0 n0 fJ c1 a w
   refine KK J (m:=f+1) ⟨b' _,an,m,h,av⟩ ?_;rintro k cQ jE⟨ae,fJ,c1,ad,gg⟩;cases k with
   |zero=>cases ad
   |succ k=>
    have I8:=aQ k (by omega);have ak:Iw (lF Y k gT n c fJ c1) (lF Y k gT n (.loop c))=some (ex,df,m'):=ad;simp only[Iw]at ak;split at ak;·rename_i vv m2 ab;refine wpIn_mono (I8 _ _ _ _ _ _ _ _ ab bg B ay dQ foot ro D0 n0 cQ jE jj gg) ?_;rintro e ef mY⟨rfl,oG⟩;exact⟨k,BC k,by omega,vv,m2,ak,oG⟩
    ·rename_i eK;refine wpIn_mono (I8 _ _ _ _ _ _ _ _ ak bg B ay dQ foot ro D0 n0 cQ jE jj gg) ?_;rintro e ef mY⟨rfl,oG⟩;exact abM ⟨rfl,oG⟩ λe=>eK df m' (by rw[ak,e])
  |region id ops anE=>
   cases anE with
   |false=>simp only[Ml]at aa;obtain⟨⟨fJ,c1⟩,ab,ad⟩:=ct aa;cases ad;refine wpIn_region ?_;have:=Sm (X:=j6 Y n B ay dQ foot ro) (G:=Y.G) (pr:=Y.pr) (D0:=D0) (n0:=n0) aN kp mZ ops (λe a w=>e=AS .normal/\lH (j6 Y n B ay dQ foot ro) Y.G Y.pr D0 n0 fJ c1 a w) (λa w h=>⟨rfl,h⟩) ops.toList 0 (by simp) (KJ bg) ab av;have dR:wpOpsIn (g8 (j6 Y n B ay dQ foot ro)) 0 Y.P ops (λe a w=>e=AS .normal/\lH (j6 Y n B ay dQ foot ro) Y.G Y.pr D0 n0 fJ c1 a w) (List.range' 0 ops.toList.length) a w:=this;rw[DS];simpa using dR
   |true=>simp only[Ml]at aa;obtain⟨⟨fJ,c1⟩,ab,ad⟩:=ct aa;cases ad;exact amL (X:=j6 Y n B ay dQ foot ro) (G:=Y.G) (pr:=Y.pr) (D0:=D0) (n0:=n0) aN kp mZ iC bg ab (λa w h=>⟨rfl,h⟩) av
  |scope c=>
   simp only[ib]at bg;have step:∀ (k:Nat) (x:Code) (fJ:bh ap) (c1:bw) (cQ:Act) (jE:World),ib n x=true->Ix (lF Y f) gT n c (k+1) x fJ c1=some (ex,df,m')->lH (j6 Y n B ay dQ foot ro) Y.G Y.pr D0 n0 fJ c1 cQ jE ->
     x.wpIn (g8 (j6 Y n B ay dQ foot ro)) 0 Y.P (λe bL w'=>match e with
      | .goto l=>∃ bl vv m2,findLabel c l=some bl/\Ix (lF Y f) gT n c k bl vv m2=some (ex,df,m')/\lH (j6 Y n B ay dQ foot ro) Y.G Y.pr D0 n0 vv m2 bL w'| e=>e=AS ex/\lH (j6 Y n B ay dQ foot ro) Y.G Y.pr D0 n0 df m' bL w') cQ jE:=λk x fJ c1 cQ jE ab ad gg=>by
    have ak:(match lF Y f gT n x fJ c1 with
     |some (.goto l,an,m)=>bu (findLabel c l) none λbl=>Ix (lF Y f) gT n c k bl an m
     |r=>r)=some (ex,df,m'):=ad
    split at ak;·rename_i l vv m2 he;obtain⟨bl,pJ,aK⟩:=ct ak;refine wpIn_mono (ao _ _ _ _ _ _ _ _ he ab B ay dQ foot ro D0 n0 cQ jE jj gg) ?_;rintro e ef mY⟨rfl,oG⟩;exact⟨bl,vv,m2,pJ,aK,oG⟩
    ·rename_i eK;refine wpIn_mono (ao _ _ _ _ _ _ _ _ ak ab B ay dQ foot ro D0 n0 cQ jE jj gg) ?_;rintro e ef mY⟨rfl,oG⟩;cases ex with
     |goto l=>exact(eK l df m' ak).elim| exit j=>exact⟨rfl,oG⟩| normal=>exact⟨rfl,oG⟩| ret=>exact⟨rfl,oG⟩
   let J (l k:Nat) (a:Act) (w:World):Prop:=∃ bl fJ c1,findLabel c l=some bl/\Ix (lF Y f) gT n c k bl fJ c1=some (ex,df,m')/\lH (j6 Y n B ay dQ foot ro) Y.G Y.pr D0 n0 fJ c1 a w
   cases f with
   |zero=>cases aa
   |succ x'=>
    refine Wv J (wpIn_mono (step x' c an m a w bg aa av) ?_) ?_
    ·intro e cQ jE he;cases e with
     |goto l=>exact⟨x',he⟩| _=>exact he
    ·rintro l k cQ jE⟨bl,fJ,c1,pJ,ad,gg⟩;cases k with
     |zero=>cases ad
     |succ k=>
      refine⟨bl,pJ,wpIn_mono (step k bl fJ c1 cQ jE (SF bg pJ) ad gg) ?_⟩;intro e ef mY he;cases e with
      |goto eu=>exact⟨k,BC k,he⟩| _=>exact he
  |rangeFunc x ps fk body=>exact anr aN bE nj ao aa bg jj av
def reckon(aN:cW Y.P Y.E)(bE:w8 Y.P)(nj:yS Y)(iC:Y.P.follows .mixedOrders=true){m m':bw}{v:ap}(h:yH Y (lF Y f) g args m=some (v,m'))(hu:bO D args us)(hm:dh Y D m I M) : Spec Y.P g us I M λr I' M'=>∃ bG,D.ext bG m.n/\aU bG v r/\dh Y bG m' I' M':=
 abm aN bE nj (anD aN bE nj iC f f (b' _)) h hu hm
end
def abN(h:eM I M w)(aa:eM I' M' w')(ad:Kept I [] w I' M' w') :
  eM I' (M'++M) w'/\Kept I M w I' (M'++M) w'/\∀ x∈M',∀ y∈M,x.num≠y.num:=by
 have aZ:∀ x∈M,x.num<w.heap.size:=λx ab=>(lR.1 (h.m x ab)).1;have c0:∀ x∈M',w.heap.size<=x.num:=λx ab=>by
  rcases ad.v5 x ab with⟨y,aC,_⟩ | h;·cases aC
  ·exact h
 have bt:∀ x∈M',∀ y∈M,x.num≠y.num:=λx ab y aC e=>by have:=aZ y aC;have:=c0 x ab;omega
 refine⟨⟨aa.i,λx ab=>?_,λx ab=>?_,?_⟩,⟨ad.le,ad.uE,λx ab=>?_,λb ag _=>ad.dO b ag (by simp),ad.out,ad.sz⟩,bt⟩
 ·rcases cv.1 ab with ab | ab
  ·exact aa.m x ab
  ·rw[ad.dO x.num (aZ x ab) (by simp)];exact h.m x ab
 ·rcases cv.1 ab with ab | ab
  ·exact aa.d x ab
  ·cases he:I' x.num with
   |none=>rfl
   |some o=>
    rcases ad.uE _ _ he with ak | ak;·rw[h.d x ab]at ak;cases ak
    ·have:=aZ x ab;omega
 ·rw[cM,sh];refine⟨aa.b3,h.b3,λa a7 b ag e=>?_⟩;obtain⟨x,ab,rfl⟩:=cP.1 a7;obtain⟨y,aC,rfl⟩:=cP.1 ag;exact bt x ab y aC e
 ·rcases cv.1 ab with ab | ab
  ·exact .inr (c0 x ab)
  ·exact .inl ⟨x,ab,rfl⟩
def Spec.frame{args:List Value}{Q:Value->aH->List aE->Prop}(h:Spec P f args I [] Q):Spec P f args I M λr I' kQ=>∃ M',kQ=M'++M/\(∀ x∈M',∀ y∈M,x.num≠y.num)/\(∀ b o,I b=some o->I' b=some o)/\Q r I' M':=by
 have ay:∀ {w:World},eM I M w->eM I [] w:=λhw=>⟨hw.i,by simp,by simp,by simp⟩;rcases h with⟨aa,ad⟩ | h
 ·refine .inl ⟨aa,λw hw=>?_⟩;refine(ad w (ay hw)).mono ?_;rintro e w'⟨v,I',M',aI,a6,cq,dS⟩;obtain⟨bc,bi,ca⟩:=abN hw cq dS;exact⟨v,I',M'++M,aI,⟨M',rfl,ca,dS.le,a6⟩,bc,bi⟩
 ·refine .inr λw hw=>?_;obtain⟨v,w',I',M',aI,a6,cq,dS⟩:=h w (ay hw);obtain⟨bc,bi,ca⟩:=abN hw cq dS;exact⟨v,w',I',M'++M,aI,⟨M',rfl,ca,dS.le,a6⟩,bc,bi⟩
mutual
def j7(k:Nat):ap->ap
 | .p id off=>.p (Nat.add id k) off| .sl id off n c=>.sl (Nat.add id k) off n c| .sx id off e n=>.sx (Nat.add id k) off e n| .m id=>.m (Nat.add id k)| .y id=>.y (Nat.add id k)| .f g l r=>.f g (qT k l) (qT k r)| .Ii t v=>.Ii t (j7 k v)| .t l=>.t (qT k l)| .a l=>.a (qT k l)| .b x=>.b x| .i a n=>.i a n| .s l=>.s l| .pn=>.pn| .g n off=>.g n off| .sn=>.sn| .gs n off a c=>.gs n off a c| .so=>.so| .mn=>.mn| .fn=>.fn| .ni=>.ni
def qT(k:Nat):List ap->List ap
 |[]=>[]| v::l=>j7 k v::qT k l
end
section
mutual
def FF{D0 D:bR}{k:Nat}(dx:∀ id a,D0 id=some a->D (Nat.add id k)=some a):∀ (v:ap) {u:Value},aU D0 v u->aU D (j7 k v) u
 | .p id off,u,h=>by simp only[aU,j7]at h |-;obtain⟨a,a7,h⟩:=h;exact⟨a,dx _ _ a7,h⟩
 | .sl id off n c,u,h=>by simp only[aU,j7]at h |-;obtain⟨a,a7,h⟩:=h;exact⟨a,dx _ _ a7,h⟩
 | .sx id off e n,u,h=>by simp only[aU,j7]at h |-;obtain⟨a,a7,h⟩:=h;exact⟨a,dx _ _ a7,h⟩
 | .m id,u,h=>by simp only[aU,j7]at h |-;obtain⟨a,a7,h⟩:=h;exact⟨a,dx _ _ a7,h⟩
 | .y id,u,h=>by simp only[aU,j7]at h |-;obtain⟨a,a7,h⟩:=h;exact⟨a,dx _ _ a7,h⟩
 | .f g l r,u,h=>by simp only[aU,j7]at h |-;obtain⟨vs,ws,aa,ad,h⟩:=h;exact⟨vs,ws,I9 dx l aa,I9 dx r ad,h⟩
 | .Ii t v,u,h=>by simp only[aU,j7]at h |-;obtain⟨x,aa,h⟩:=h;exact⟨x,FF dx v aa,h⟩
 | .t l,u,h=>by simp only[aU,j7]at h |-;obtain⟨x,aa,h⟩:=h;exact⟨x,I9 dx l aa,h⟩
 | .a l,u,h=>by simp only[aU,j7]at h |-;obtain⟨x,aa,h⟩:=h;exact⟨x,I9 dx l aa,h⟩
 | .b x,u,h=>by simpa only[aU,j7]using h
 | .i a n,u,h=>by simpa only[aU,j7]using h
 | .s l,u,h=>by simpa only[aU,j7]using h
 | .pn,u,h=>by simpa only[aU,j7]using h
 | .g n off,u,h=>by simpa only[aU,j7]using h
 | .sn,u,h=>by simpa only[aU,j7]using h
 | .gs n off a c,u,h=>by simpa only[aU,j7]using h
 | .so,u,h=>by simpa only[aU,j7]using h
 | .mn,u,h=>by simpa only[aU,j7]using h
 | .fn,u,h=>by simpa only[aU,j7]using h
 | .ni,u,h=>by simpa only[aU,j7]using h
def I9{D0 D:bR}{k:Nat}(dx:∀ id a,D0 id=some a->D (Nat.add id k)=some a):∀ (l:List ap) {us:List Value},bO D0 l us->bO D (qT k l) us
 |[],us,h=>by simpa only[bO,qT]using h
 |v::l,us,h=>by simp only[bO,qT]at h |-;obtain⟨x,xs,aa,ad,h⟩:=h;exact⟨x,xs,FF dx v aa,I9 dx l ad,h⟩
end
end
inductive vw where
 |cells(l:List ap)(T:Nat)| map (es:List (ap×ap))
noncomputable def Ja:fw->Option vw
 | .cells cs T fQ=>cs.E2 0 fQ λl=>some (.cells l T)
 | .map es=>some (.map es)| _=>none
noncomputable def readAll(t:bh fw):Nat->Nat->Option (List vw)
 |_,0=>some []| id,n+1=>bu (t.get id) none λe=>bu (Ja e) none λs=>bu (readAll t (Nat.add id 1) n) none λl=>some (s::l)
def SN(k:Nat):List (ap×ap)->List (ap×ap)
 |[]=>[]| p::l=>(j7 k p.1,j7 k p.2)::SN k l
noncomputable def vw.ja(k:Nat):vw->fw
 | .cells l T=>bh.yB (qT k l) .nil 0 λcs=>.cells cs T l.length
 | .map es=>.map (SN k es)
noncomputable def MW{R:Type}(k:Nat):List vw->Nat->bh fw->(bh fw->R)->R
 |[],_,t,K=>K t| s::l,id,t,K=>t.nV (some (s.ja k)) id λt=>MW k l (Nat.add id 1) t K
noncomputable def SO(v:ap)(L:List vw)(m:bw):Option (ap×bw):=rX m.n λn=>rX (Nat.add n L.length) λgw=>MW n L n m.t λt=>some (j7 n v,⟨t,gw⟩)
def abO{t:bh fw}:∀ {n id:Nat} {L:List vw},readAll t id n=some L->L.length=n/\∀ j s,L[j]?=some s->∃ e,t.get (id+j)=some e/\Ja e=some s
 |0,id,L,h=>by cases h;exact⟨rfl,by simp⟩
 |n+1,id,L,h=>by
  unfold readAll at h;obtain⟨e,aa,h⟩:=ct h;obtain⟨s,ad,h⟩:=ct h;obtain⟨l,ak,h⟩:=ct h;cases h;obtain⟨bc,bi⟩:=abO ak;refine⟨by simp[bc],λj cg ai=>?_⟩;cases j with
  |zero=>cases ai;exact⟨e,aa,ad⟩| succ j=>obtain⟨cZ,eT,c4⟩:=bi j cg (by simpa using ai);refine⟨cZ,?_,c4⟩;rw[<-eT];congr 1;show id+(j+1)=id+1+j;omega
def abP(k:Nat):∀ (L:List vw) (id:Nat) (t:bh fw),∃ bn:bh fw,(∀ {R:Type} (K:bh fw->R),MW k L id t K=K bn) /\ ∀ j e,bn.get j=some e->(id<=j/\∃ s,L[j-id]?=some s/\e=s.ja k)\/((j<id\/id+L.length<=j)/\t.get j=some e)
 |[],id,t=>⟨t,λK=>rfl,λj e h=>.inr ⟨by simp;omega,h⟩⟩
 |s::L,id,t=>by
  obtain⟨t1,aa,ad⟩:=bh.o7 (some (s.ja k)) t id;obtain⟨bn,ak,aK⟩:=abP k L (id+1) t1;refine⟨bn,λK=>?_,λj e h=>?_⟩;·unfold MW;rw[aa];exact ak K
  ·rcases aK j e h with⟨bc,cg,bi,ca⟩ | ⟨bc,bi⟩
   ·refine .inl ⟨by omega,cg,?_,ca⟩;rw[show j-id=(j-(id+1))+1 by omega];simpa using bi
   ·rcases ad j e bi with⟨rfl,ca⟩ | ⟨ca,gf⟩
    ·refine .inl ⟨b' _,s,by simp,?_⟩;cases ca;rfl
    ·refine .inr ⟨?_,gf⟩;simp only[et];omega
def anF{k:Nat}(dx:∀ id a,D0 id=some a->D (Nat.add id k)=some a){es:List (ap×ap)}{l:List MapEntry}(h:qQ D0 es l):qQ D (SN k es) l:=by
 induction h with
 |nil=>exact .nil| cons ae aj t aQ=>exact .cons (FF dx _ ae) (FF dx _ aj) aQ
def abQ{k:Nat}:∀ {l:List ap} {i:Nat} {v:ap},(qT k l)[i]?=some v->∃ w9,l[i]?=some w9/\v=j7 k w9
 |[],i,v,h=>by simp[qT]at h
 |x::l,0,v,h=>by simp only[qT,List.getElem?_cons_zero,kK]at h;exact⟨x,rfl,h.symm⟩
 |x::l,i+1,v,h=>by simp only[qT,Gy]at h;simpa using abQ h
def anG{k:Nat}(dx:∀ id a,D0 id=some a->D (Nat.add id k)=some a)(ba:∀ x∈M,x∈M'){a:Loc}{e:fw}{s:vw}(h:lG D0 E M a e)(af:Ja e=some s):lG D E M' a (s.ja k):=by
 cases h with
 | @cells cs T fQ arr ay aa ad ak aK bz=>
  unfold Ja at af;obtain⟨l,bc,bi,ca⟩:=bh.Fg cs fQ 0 _ _ af;cases ca;obtain⟨bn,eT,c4⟩:=bh.yI (qT k l) (.nil:bh ap) 0;show lG D E M' a (bh.yB (qT k l) .nil 0 λcs=>fw.cells cs T l.length);rw[eT,bc];refine .cells arr ay (ba _ aa) ad (λi v hi aw=>?_) aK bz;rcases c4 i v aw with⟨_,h⟩ | ⟨_,h⟩;·obtain⟨w9,aI,rfl⟩:=abQ (by simpa using h);have:=bi i hi;rw[du,aI]at this;obtain⟨x,f1,f2⟩:=ak i w9 hi this;exact⟨x,f1,FF dx _ f2⟩
  ·cases h
 |map l clock aa ad=>cases af;exact .map l clock (ba _ aa) (anF dx ad)| loop L aa ad=>cases af| done L aa ad ak=>cases af
def anH(aN:cW Y.P Y.E)(bE:w8 Y.P)(iC:Y.P.follows .mixedOrders=true){jw:bw}{w9:ap}{L:List vw}(ay:yH ⟨Y.P,Y.E,λ_=>none,λ_ _ _=>none⟩ (lF ⟨Y.P,Y.E,λ_=>none,λ_ _ _=>none⟩ f) g args ⟨.nil,0⟩=some (w9,jw))(bY:readAll jw.t 0 jw.n=some L)(dz:∀ D us,bO D args us->bO (λ_=>none) args us){m m':bw}{v:ap}(h:SO w9 L m=some (v,m'))(hu:bO D args us)(hm:dh Y D m I M) :
  Spec Y.P g us I M λr I' M'=>∃ bG,D.ext bG m.n/\aU bG v r/\dh Y bG m' I' M':=by
 have nj:yS ⟨Y.P,Y.E,λ_=>none,λ_ _ _=>none⟩:=λg vs m v m' h=>by cases h
 have iH:dh ⟨Y.P,Y.E,λ_=>none,λ_ _ _=>none⟩ (λ_=>none) ⟨.nil,0⟩ I []:=⟨λid e a h bq=>(by cases bq),λid jb e cZ a bL h aa bq=>(by cases bq),λid a h=>(by cases h),λg cs h=>(by cases h)⟩;have av:=(reckon (Y:=⟨Y.P,Y.E,λ_=>none,λ_ _ _=>none⟩) aN bE nj iC ay (dz D us hu) iH).frame (M:=M);refine Spec.mH av ?_;rintro r I' kQ⟨M0,rfl,bt,bf,D0,-,aj,FG⟩;unfold SO at h;rw[RP,RP]at h;obtain⟨bn,aa,ad⟩:=abP m.n L m.n m.t;rw[aa]at h;cases h;obtain⟨bc,bi⟩:=abO bY;let bG:bR:=λid=>if id<m.n then D id else D0 (id-m.n)
 have dx:∀ id a,D0 id=some a->bG (Nat.add id m.n)=some a:=λid a a7=>by show(if id+m.n<m.n then D (id+m.n)else D0 (id+m.n-m.n))=some a;rw[bN (by omega),Nat.add_sub_cancel,a7]
 have g0:D.le bG:=λid a a7=>by show(if id<m.n then D id else D0 (id-m.n))=some a;rw[bT (hm.j4 _ _ a7),a7]
 have lo:∀ id,id<m.n->bG id=D id:=λid hi=>bT hi;have cC:∀ id,m.n<=id->bG id=D0 (id-m.n):=λid hi=>bN (by omega);have src:∀ id e a,bn.get id=some e->bG id=some a->(m.n<=id/\∃ s dy,e=s.ja m.n/\jw.t.get (id-m.n)=some dy/\Ja dy=some s/\D0 (id-m.n)=some a)\/(id<m.n/\m.t.get id=some e/\D id=some a):=λid e a he a7=>by
  rcases ad id e he with⟨eT,s,c4,hM⟩ | ⟨eT,c4⟩;·obtain⟨dy,nJ,SP⟩:=bi _ _ c4;rw[du]at nJ;rw[cC _ eT]at a7;exact .inl ⟨eT,s,dy,hM,nJ,SP,a7⟩
  ·rcases Nat.lt_or_ge id m.n with aZ | c0
   ·rw[lo _ aZ]at a7;exact .inr ⟨aZ,c4,a7⟩
   ·rw[cC _ c0]at a7;have:=FG.j4 _ _ a7;omega
 refine⟨bG,λid hi=>lo id hi,FF dx _ aj,⟨λid e a he a7=>?_,λid jb e cZ a bL he rq a7 sS ag=>?_,λid a a7=>?_,hm.qO.mono bf⟩⟩
 ·rcases src id e a he a7 with⟨eT,s,dy,rfl,c4,hM,nJ⟩ | ⟨eT,c4,hM⟩
  ·exact anG dx (λx ab=>iR _ ab) (FG.ja _ _ _ c4 nJ) hM
  ·exact(hm.ja _ _ _ c4 hM).mono g0 λx ab _=>rj _ ab
 ·rcases src id e a he a7 with⟨eT,s,dy,rfl,c4,hM,nJ⟩ | ⟨eT,c4,hM⟩
  ·rcases src jb cZ bL rq sS with⟨SQ,cg,anI,rfl,Dd,Jb,SR⟩ | ⟨SQ,Dd,Jb⟩
   ·have:=FG.inj _ _ _ _ _ _ c4 Dd nJ SR ag;omega
   ·obtain⟨x,ab,om⟩:=FG.ar c4 nJ;obtain⟨y,aC,SS⟩:=hm.ar Dd Jb;exact(bt x ab y aC (om.trans (ag.trans SS.symm))).elim
  ·rcases src jb cZ bL rq sS with⟨SQ,cg,anI,rfl,Dd,Jb,SR⟩ | ⟨SQ,Dd,Jb⟩
   ·obtain⟨x,ab,om⟩:=FG.ar Dd SR;obtain⟨y,aC,SS⟩:=hm.ar c4 hM;exact(bt x ab y aC (om.trans (ag.symm.trans SS.symm))).elim
   ·exact hm.inj _ _ _ _ _ _ c4 Dd hM Jb ag
 ·show id<m.n+L.length;rcases Nat.lt_or_ge id m.n with aZ | c0
  ·omega
  ·rw[cC _ c0]at a7;have:=FG.j4 _ _ a7;omega
open Go Go.Proofs
def anJ(k:Nat):liesAt Tryz.prog Tryz.prog.depth 320 ((k+1)*2/Tryz.prog.cellsOf 320) 0 320 1=true:=by
 have ad:Tryz.prog.cellsOf 320=2:=by kernel_rfl
 have ah:Tryz.prog.depth=(Tryz.prog.depth-1)+1:=by kernel_rfl
 have gG:sameLayout Tryz.prog Tryz.prog.depth 320 320=true:=by kernel_rfl
 have af:rowAt Tryz.prog (sameLayout Tryz.prog Tryz.prog.depth · 320) Tryz.prog.depth 320 (k+1) 0 1=true:=by
  generalize aB:(sameLayout Tryz.prog Tryz.prog.depth · 320)=f;have wq:f 320=true:=by rw[<-aB];exact gG
  rw[ah];unfold rowAt;simp only[ad,wq];simp
 rw[ad,Nat.mul_div_cancel _ (by decide:0<2)];rw[ah];unfold liesAt;rw[af];rfl
def anK(a9 post:List aE)(b:Nat)(v:Value)(k:Nat)(bl:List Value)(af:bl.length=2*k) :
  Spec Tryz.prog 300 [ptr b] I (a9++⟨b,.cells (.pointer none::v::bl).toArray 320 (0,0)⟩::post) λr I' M'=>r=.tuple #[]/\I'=I/\M'=a9++⟨b,.cells (cj (.pointer none::v::bl) 0 [ptr b]).toArray 320 (0,0)⟩::post:=by
 obtain⟨inf,z,hi,ft,_⟩:=(aY 320 _ rfl).inf;refine bV [] aY Tryz.func300 rfl rfl rfl ?_;intro B ay;have hm:∀ {o:Obj},(⟨b,o⟩:aE)∈a9++⟨b,o⟩::post:=fun {o}=>cv.2 (.inr (.head _));have dn:(Value.pointer none::v::bl).toArray.size=(k+1)*2:=by simp[af];omega
 have ax:liesAt Tryz.prog Tryz.prog.depth 320 ((Value.pointer none::v::bl).toArray.size/Tryz.prog.cellsOf 320) 0 320 1=true:=by rw[dn];exact anJ k
 refine aO.mk [.pointer none] (dr (cs:=.pointer none::v::bl) (k:=0) (n:=1) (T:=320) hm (by simp)) ?_;refine .other (bD.Le aY rfl (by simp) rfl rfl rfl rfl ?_);refine aX.mk (λ_=>?_) (λh=>by cases h);refine bD.conv rfl (by simp) rfl (λw hw=>Lib.run_to_unsafe (t:=320) (e:=320) w ⟨b,0,none⟩ (by kernel_rfl) (by kernel_rfl) (j:=inf) (cells:=(Value.pointer none::v::bl).toArray.size) hi (by rw[ft];decide) (Lg hw hm) (by rw[dn];show 0<_;omega)) ?_;refine a8.mk (a9++⟨b,.cells (.pointer none::v::bl).toArray 320 (0,0)⟩::post) [] _ (by simp) (PP _) ?_;rintro v I' M' -⟨rfl,rfl,rfl⟩;refine bD.conv rfl (by simp) rfl (λw hw=>Lib.run_from_unsafe (u:=320) (e:=320) w ⟨b,0,none⟩ (by kernel_rfl) (by kernel_rfl) (j:=inf) (cells:=(Value.pointer none::v::bl).toArray.size) hi (Lg hw (cv.2 (.inl hm))) ax) ?_;refine ck.mk a9 post _ _ (dF _) rfl (by rw[dn];show 0+0+1<=(k+1)*2;omega) rfl ?_;exact⟨_,_,.refl,rfl,rfl,rfl⟩
def anL{b:Nat}{T:Nat}(ba:(⟨b,.cells arr T (0,0)⟩:aE)∈M)(ay:arr[0]?=some (ptr b)) :
  Spec Tryz.prog 300 [ptr b] I M λr I' M'=>r=.tuple #[]/\I'=I/\M'=M:=by
 refine bV [] aY Tryz.func300 rfl rfl rfl ?_;intro B hg;have af:cR I M ((⟨b,0,none⟩:Addr).add 0) 1 [ptr b]:=by
  obtain⟨l⟩:=arr;cases l with
  |nil=>simp at ay| cons x l=>simp only[BW,List.getElem?_cons_zero,kK]at ay;subst ay;exact dr (cs:=ptr b::l) (k:=0) (n:=1) ba (by simp)
 refine aO.mk [ptr b] af ?_;refine .other (bD.Le aY rfl (by simp) rfl rfl rfl rfl ?_);refine aX.mk (λh=>by cases h) (λ_=>?_);refine aO.mk [ptr b] af ?_;refine .other (bD.Xg aY rfl (by simp) rfl rfl rfl rfl rfl ?_);refine aX.mk (λh=>by cases h) (λ_=>?_);exact⟨_,_,.refl,rfl,rfl,rfl⟩
def anM{m:bw}{id off:Nat}{T fQ:Nat}{a:Loc}{a9 post:List aE}(hm:dh Y D m I M)(aw:m.t.get id=some (.cells cs T fQ))(a7:D id=some a)(aA:a.o=0)(c9:M=a9++⟨a.b,.cells arr T (0,0)⟩::post)(dn:a.o+fQ<=arr.size)(ao:∀ i v,i<fQ->cs.get i=some v->∃ x,arr[a.o+i]?=some x/\aU D v x)(ae:∀ i,Y.E T=some i->arr.size=a.o+a.c*i.size)(iC:a.c<=maxLen)
  {l:List ap} {vs:List Value} (ax:bO D l vs) {K:bw->Option R} {r:R} (h:yF m (.p id off) l K=some r) :
  ∃ m',K m'=some r/\m'.n=m.n/\off+vs.length<=arr.size/\dh Y D m' I (a9++⟨a.b,.cells (cj arr.toList off vs).toArray T (0,0)⟩::post):=by
 unfold yF at h;simp only[aw]at h;cases ag:(Nat.ble (Nat.add off l.length) fQ&&l.all ap.one)with
 |false=>rw[ag]at h;cases h
 |true=>
  rw[ag]at h;simp only[cF]at h;rw[cB]at ag;have AH:off+l.length<=fQ:=bK ag.1;obtain⟨cs',aa,ad⟩:=bh.yI l cs off;rw[aa]at h;obtain⟨bn,ak,aK⟩:=bh.o7 (some (fw.cells cs' T fQ)) m.t id;rw[ak]at h;have cS:=ax.len;have iu:off+vs.length<=arr.size:=by omega
  refine⟨_,h,rfl,iu,?_⟩;have e8:∀ x∈M,x.num≠a.b->x∈a9++⟨a.b,.cells (cj arr.toList off vs).toArray T (0,0)⟩::post:=λx ab aD=>by
   rw[c9]at ab;rcases cv.1 ab with ab | ab;·exact cv.2 (.inl ab)
   ·rcases eI.1 ab with rfl | ab
    ·exact(aD rfl).elim
    ·exact cv.2 (.inr (nU _ ab))
  refine hm.step (λi e hi=>(aK i e hi).imp (λq=>⟨q.1,pb q.2⟩) λq=>q) a7 (bR.le_refl D) (λ_ _=>rfl) hm.j4 (λ_ _ h=>h) (λi e bL bt hi qR x ab aD=>e8 x ab ?_) ?_ ?_;·rw[aD];exact λag=>bt (hm.inj _ _ _ _ _ _ hi aw qR a7 ag)
  ·have AI:(cj arr.toList off vs).length=arr.size:=by rw[R7 (by simpa using iu)];simp
   refine .cells (cj arr.toList off vs).toArray aA (by simp) (by simp[AI];exact dn) (λi v hi IN=>?_) (λi hi=>by simp[AI];exact ae i hi) iC;rw[aA,du];simp only[BW];rw[aaE (by simpa using iu)];rcases ad i v IN with⟨bc,bi⟩ | ⟨bc,bi⟩;·have aZ:=(hG.1 bi).1;rw[bT ⟨bc,by omega⟩];exact ax.get bi
   ·rw[bN (by omega)];have:=ao i v hi bi;rw[aA,du]at this;simpa using this
  ·intro i e bL bt hi qR ag;exact bt (hm.inj _ _ _ _ _ _ hi aw qR a7 ag)
noncomputable def SU(m:bw)(vs:List ap):Option (ap×bw):=match vs with
 |[.p id 0]=>(match m.t.get id with
  |some (.cells cs T fQ)=>b2 (Nat.beq T 320&&Nat.ble 2 fQ) (match cs.get 0 with
   |some .pn=>yF m (.p id 0) [.p id 0] λm=>some (.t [],m)
   |some (.p jb 0)=>b2 (Nat.beq id jb) (some (.t [],m)) none| _=>none) none
  |_=>none)
 |_=>none
def anN(kv:Y.P=Tryz.prog)(anO:Y.E=sy){m m':bw}{vs:List ap}{v:ap}(h:SU m vs=some (v,m'))(hu:bO D vs us)(hm:dh Y D m I M) :
  Spec Y.P 300 us I M λr I' M'=>∃ bG,D.ext bG m.n/\aU bG v r/\dh Y bG m' I' M':=by
 unfold SU at h;split at h
 ·rename_i id;obtain⟨x,xs,ab,aD,rfl⟩:=hu.kB;obtain rfl:=aD.nW;obtain⟨a,a7,rfl⟩:=ab.ptr;split at h
  ·rename_i cs T fQ aw;obtain⟨aa,aL⟩:=fY h;clear h;rw[cB]at aa;obtain⟨be,AH⟩:=aa;obtain rfl:=ed be;have AH:=bK AH;obtain⟨arr,aA,ba,ax,ao,ae,iC⟩:=hm.ja _ _ _ aw a7;have dn:=ae _ (by rw[anO];rfl);have dn:arr.size=a.c*2:=by rw[dn,aA,du]
   have aJ:Value.pointer (some ⟨a.b,a.o+0,none⟩)=ptr a.b:=by rw[aA];rfl
   split at aL
   ·rename_i zM;obtain⟨uQ,fM,Jc⟩:=ao 0 _ (by omega) zM;obtain⟨a9,post,c9⟩:=vf ba;obtain⟨c1,ad,ak,aK,bz⟩:=anM hm aw a7 aA c9 ax ao ae iC (l:=[.p id 0]) (vs:=[ptr a.b]) (by simp only[bO,aU];exact⟨_,_,⟨a,a7,aJ.symm⟩,rfl,rfl⟩) aL;cases ad;rw[aJ,kv,c9];obtain⟨l⟩:=arr;have anP:uQ=.pointer none:=by simpa only[aU]using Jc
    rw[aA]at fM
    match l,fM,dn with
    |[],fM,_=>simp at fM| [_],_,dn=>simp at dn;omega
    |y::w::bl,fM,dn=>
     have aC:y=.pointer none:=by simpa[anP]using fM
     subst aC;have eH:bl.length=2*(a.c-1):=by simp at dn;omega
     refine Spec.mH (anK a9 post a.b w (a.c-1) bl eH) ?_;rintro r I' M'⟨rfl,rfl,rfl⟩;exact⟨D,bR.pe,by simp only[aU,bO];exact⟨[],rfl,rfl⟩,bz⟩
   ·rename_i jb zM;obtain⟨ad,tO⟩:=fY aL;obtain rfl:=ed ad;cases tO;obtain⟨uQ,fM,Jc⟩:=ao 0 _ (by omega) zM;obtain⟨bL,sS,rfl⟩:=Jc.ptr;rw[a7]at sS;cases sS;rw[aJ]at fM |-;rw[kv];refine Spec.mH (anL ba (by rw[<-fM,aA])) ?_;rintro r I' M'⟨rfl,rfl,rfl⟩;exact⟨D,bR.pe,by simp only[aU,bO];exact⟨[],rfl,rfl⟩,hm⟩
   ·cases aL
  ·cases h
 ·cases h
def jz(I:aH):List aE->aH
 |[]=>I| x::l=>ins (jz I l) x.num x.obj
def MX{I:aH}:∀ {M:List aE} {b:Nat} {o:Obj},jz I M b=some o->I b=some o\/∃ x∈M,x.num=b/\x.obj=o
 |[],b,o,h=>.inl h
 |x::l,b,o,h=>by
  unfold jz ins at h;by_cases e:b=x.num;·subst e;simp only[q6,cF,kK]at h;exact .inr ⟨x,by simp,rfl,h⟩
  ·simp only[hI e,cE]at h;rcases MX h with h | ⟨y,aa,ad,ak⟩
   ·exact .inl h
   ·exact .inr ⟨y,by simp[aa],ad,ak⟩
def abR{I:aH}:∀ {M:List aE} (aD:(M.map (·.num)).Nodup) {x:aE},x∈M->jz I M x.num=some x.obj
 |y::l,aD,x,h=>by
  simp only[b5,lf]at aD;rcases eI.1 h with rfl | h;·unfold jz ins;simp only[q6,cF]
  ·have e:x.num≠y.num:=λe=>aD.1 (cP.2 ⟨x,h,e⟩);unfold jz ins;simp only[hI e,cE];exact abR aD.2 h
def SV{I:aH}:∀ {M:List aE} (ah:∀ x∈M,I x.num=none) {b:Nat} {o:Obj},I b=some o->jz I M b=some o
 |[],ah,b,o,h=>h
 |y::l,ah,b,o,h=>by
  have e:b≠y.num:=λe=>by have:=ah y (by simp);rw[<-e,h]at this;cases this
  unfold jz ins;simp only[hI e,cE];exact SV (λx ab=>ah x (by simp[ab])) h
def anQ(aD:(M.map (·.num)).Nodup)(ah:∀ x∈M,I x.num=none){b:Nat}{o:Obj}(h:ik I M b o):jz I M b=some o:=by
 rcases h with h | ⟨x,aa,rfl,rfl⟩
 ·exact SV ah h
 ·exact abR aD aa
structure ub(I:aH)(M:List aE)(J:aH):Prop where
 aG:∀ b o,ik I M b o->J b=some o
 inv:∀ b o,J b=some o->ik I M b o
def ub.le{J:aH}(h:ub I M J):∀ b o,I b=some o->J b=some o:=λb o ag=>h.aG b o (.inl ag)
def abS(aa:eM I' M' w')(ad:Kept I [] w I' M' w'):ub I' M' (jz I' M')/\eM (jz I' M') [] w'/\Kept I [] w (jz I' M') [] w':=by
 refine⟨⟨λb o h=>anQ aa.b3 aa.d h,λb o h=>?_⟩,⟨λb o h=>?_,by simp,by simp,by simp⟩,⟨λb o h=>SV aa.d (ad.le _ _ h),λb o h=>?_,by simp,ad.dO,ad.out,ad.sz⟩⟩
 ·rcases MX h with h | ⟨x,bc,bi,ca⟩
  ·exact .inl h
  ·exact .inr ⟨x,bc,bi,ca⟩
 ·rcases MX h with h | ⟨x,bc,rfl,rfl⟩
  ·exact aa.i _ _ h
  ·exact aa.m _ bc
 ·rcases MX h with h | ⟨x,bc,rfl,rfl⟩
  ·exact ad.uE _ _ h
  ·rcases ad.v5 _ bc with⟨y,aC,_⟩ | h
   ·cases aC
   ·exact .inr h
def Spec.jz{args:List Value}{Q:Value->aH->List aE->Prop}(h:Spec P f args I [] Q):Spec P f args I [] λr J kQ=>kQ=[]/\(∀ b o,I b=some o->J b=some o)/\∃ I' M',Q r I' M'/\ub I' M' J:=by
 rcases h with⟨aa,ad⟩ | h
 ·refine .inl ⟨aa,λw hw=>?_⟩;refine(ad w hw).mono ?_;rintro e w'⟨v,I',M',aI,a6,cq,dS⟩;obtain⟨bc,bi,ca⟩:=abS cq dS;exact⟨v,_,[],aI,⟨rfl,ca.le,I',M',a6,bc⟩,bi,ca⟩
 ·refine .inr λw hw=>?_;obtain⟨v,w',I',M',aI,a6,cq,dS⟩:=h w hw;obtain⟨bc,bi,ca⟩:=abS cq dS;exact⟨v,w',_,[],aI,⟨rfl,ca.le,I',M',a6,bc⟩,bi,ca⟩
noncomputable def De{α:Type}(l:List α):bh α:=bh.yB l .nil 0 id
def abT{l:List α}{i:Nat}{v:α}(h:(De l).get i=some v):l[i]?=some v:=by
 obtain⟨t,aa,ad⟩:=bh.yI l (.nil:bh α) 0;unfold De at h;rw[aa]at h;rcases ad _ _ h with⟨_,h⟩ | ⟨_,h⟩
 ·simpa using h
 ·cases h
noncomputable def Jd:GT:=λg=>b2 (Nat.beq g 0) (some (De (jG.map (ap.i .i64)))) (b2 (Nat.beq g 1) (some (De (u3.map ap.s))) (b2 (Nat.beq g 2) (some (De [.i .i64 0,.i .i64 1,.s [63],.i .i64 0,.i .i64 (-1),.s [42],.i .i64 1,.i .i64 (-1),.s [43]])) (b2 (Nat.beq g 4) (some (De (dA.map (ap.i .u8)))) none)))
def SW{f:α->ap}{h:α->Value}(aB:∀ x D,aU D (f x) (h x)){l:List α}{i:Nat}{v:ap}(aj:(De (l.map f)).get i=some v):∃ x,(l.map h).toArray[i]?=some x/\∀ D,aU D v x:=by
 have:=abT aj;rw[iB]at this;cases ab:l[i]? with
 |none=>rw[ab]at this;cases this| some x=>rw[ab]at this;simp only[lg,kK]at this;subst this;exact⟨h x,by simp[ab],aB x⟩
def anR(be:e2 I dA):IC Jd I:=by
 intro g cs h;unfold Jd at h;rw[kA,kA,kA,kA]at h;cases aa:Nat.beq g 0 with
 |true=>rw[aa,cF]at h;obtain rfl:=ed aa;have h:=eX h;subst h;obtain⟨T,f,h⟩:=be.c;exact⟨_,T,f,h,λi v aj=>SW (f:=ap.i .i64) (h:=Value.int .i64) (λx D=>by simp only[aU]) aj⟩
 |false=>
 rw[aa,cE]at h;cases ad:Nat.beq g 1 with
 |true=>rw[ad,cF]at h;obtain rfl:=ed ad;have h:=eX h;subst h;obtain⟨T,f,h⟩:=be.s;exact⟨_,T,f,h,λi v aj=>SW (f:=ap.s) (h:=λl=>Value.string (strOf l)) (λx D=>by simp only[aU,strOf]) aj⟩
 |false=>
 rw[ad,cE]at h;cases ak:Nat.beq g 2 with
 |true=>
  rw[ak,cF]at h;obtain rfl:=ed ak;have h:=eX h;subst h;obtain⟨T,f,h⟩:=be.p;refine⟨_,T,f,h,λi v aj=>?_⟩;have aj:=abT aj;rcases i with _ | _ | _ | _ | _ | _ | _ | _ | _ | i
  all_goals first | (cases aj;exact⟨_,rfl,λD=>by simp only[aU]<;>rfl⟩) | (simp at aj)
 |false=>
 rw[ak,cE]at h;cases aK:Nat.beq g 4 with
 |true=>rw[aK,cF]at h;obtain rfl:=ed aK;have h:=eX h;subst h;obtain⟨_,_,T,f,h⟩:=be.d;exact⟨_,T,f,h,λi v aj=>SW (f:=ap.i .u8) (h:=Value.int .u8) (λx D=>by simp only[aU]) aj⟩
 |false=>
 rw[aK,cE]at h;cases h
noncomputable def MY:List UInt8->Nat->Nat->Int
 |[],_,_=>-1| b::l,c,k=>b2 (Nat.beq b.toNat c) (Int.ofNat k) (MY l c (Nat.succ k))
def abU(c:UInt8):∀ (l:List UInt8) (k:Nat),MY l c.toNat k=if Lib.indexByte l c=-1 then -1 else Lib.indexByte l c+k
 |[],k=>rfl
 |b::l,k=>by
  have c0:=Lib.indexByte_ge l c;unfold MY Lib.indexByte;rw[kA];by_cases h:b=c;·subst h;simp
  ·have aa:Nat.beq b.toNat c.toNat=false:=by
    cases ag:Nat.beq b.toNat c.toNat with
    |false=>rfl| true=>exact absurd (UInt8.toNat_inj.1 (ed ag)) h
   have ad:(b == c)=false:=by simpa using h
   rw[aa,cE,ad,abU c l];simp only[ld,mj];by_cases ak:Lib.indexByte l c=-1;·simp[ak]
   ·have aK:(Lib.indexByte l c == -1)=false:=by simpa using ak
    rw[aK,bN ak];simp only[ld,mj];rw[bN (by omega)];omega
def abV:w8 Tryz.prog:=anc (by kernel_rfl)
def abW:Tryz.prog.follows .mixedOrders=true:=by kernel_rfl
noncomputable def abX:gS:=⟨Tryz.prog,sy,λ_=>none,λ_ _ _=>none⟩
noncomputable def abY:List vw:=[.map [(.i .u8 123,.f 323 [] []),(.i .u8 34,.f 324 [] []),(.i .u8 91,.f 325 [] []),(.i .u8 46,.f 326 [] []),(.i .u8 47,.f 345 [] [.p 1 0]),(.i .u8 38,.f 345 [] [.p 2 0]),(.i .u8 33,.f 345 [] [.p 3 0]),(.i .u8 63,.f 345 [] [.p 4 0]),(.i .u8 42,.f 345 [] [.p 5 0]),(.i .u8 43,.f 345 [] [.p 6 0]),(.i .u8 40,.f 345 [] [.p 7 0]),(.i .u8 41,.f 345 [] [.p 8 0]),(.i .u8 60,.f 328 [] []),(.i .u8 62,.f 345 [] [.p 10 0]),(.i .u8 58,.f 345 [] [.p 11 0]),(.i .u8 65,.f 329 [] []),(.i .u8 66,.f 329 [] []),(.i .u8 67,.f 329 [] []),(.i .u8 68,.f 329 [] []),(.i .u8 69,.f 329 [] []),(.i .u8 70,.f 329 [] []),(.i .u8 71,.f 329 [] []),(.i .u8 72,.f 329 [] []),(.i .u8 73,.f 329 [] []),(.i .u8 74,.f 329 [] []),(.i .u8 75,.f 329 [] []),(.i .u8 76,.f 329 [] []),(.i .u8 77,.f 329 [] []),(.i .u8 78,.f 329 [] []),(.i .u8 79,.f 329 [] []),(.i .u8 80,.f 329 [] []),(.i .u8 81,.f 329 [] []),(.i .u8 82,.f 329 [] []),(.i .u8 83,.f 329 [] []),(.i .u8 84,.f 329 [] []),(.i .u8 85,.f 329 [] []),(.i .u8 86,.f 329 [] []),(.i .u8 87,.f 329 [] []),(.i .u8 88,.f 329 [] []),(.i .u8 89,.f 329 [] []),(.i .u8 90,.f 329 [] []),(.i .u8 95,.f 329 [] []),(.i .u8 97,.f 329 [] []),(.i .u8 98,.f 329 [] []),(.i .u8 99,.f 329 [] []),(.i .u8 100,.f 329 [] []),(.i .u8 101,.f 329 [] []),(.i .u8 102,.f 329 [] []),(.i .u8 103,.f 329 [] []),(.i .u8 104,.f 329 [] []),(.i .u8 105,.f 329 [] []),(.i .u8 106,.f 329 [] []),(.i .u8 107,.f 329 [] []),(.i .u8 108,.f 329 [] []),(.i .u8 109,.f 329 [] []),(.i .u8 110,.f 329 [] []),(.i .u8 111,.f 329 [] []),(.i .u8 112,.f 329 [] []),(.i .u8 113,.f 329 [] []),(.i .u8 114,.f 329 [] []),(.i .u8 115,.f 329 [] []),(.i .u8 116,.f 329 [] []),(.i .u8 117,.f 329 [] []),(.i .u8 118,.f 329 [] []),(.i .u8 119,.f 329 [] []),(.i .u8 120,.f 329 [] []),(.i .u8 121,.f 329 [] []),(.i .u8 122,.f 329 [] [])],.cells [.i .u8 3] 5,.cells [.i .u8 4] 5,.cells [.i .u8 5] 5,.cells [.i .u8 6] 5,.cells [.i .u8 7] 5,.cells [.i .u8 8] 5,.cells [.i .u8 9] 5,.cells [.i .u8 10] 5,.cells [.i .u8 11] 5,.cells [.i .u8 12] 5,.cells [.i .u8 13] 5]
def anS:(bu (yH abX (lF abX 100000) 302 [] ⟨.nil,0⟩) none λp=>bu (readAll p.2.t 0 p.2.n) none λL=>some (p.1,L))=some (ap.m 0,abY):=by kernel_rfl
noncomputable def SX:mb:=λg vs m=>b2 (Nat.beq g 364) (match vs with
 |[.s l,.i .u8 (.ofNat k)]=>b2 (Nat.blt k 256) (some (.i .i64 (MY l k 0),m)) none| _=>none) (b2 (Nat.beq g 322) (match vs with
 |[v]=>some (v,m)| _=>none) (b2 (Nat.beq g 302) (match vs with
 |[]=>SO (.m 0) abY m| _=>none) (b2 (Nat.beq g 300) (SU m vs) none)))
noncomputable def vx:gS:=⟨Tryz.prog,sy,Jd,SX⟩
def anT:yS vx:=by
 intro g vs m v m' h D I M us hu hm;change SX g vs m=some (v,m')at h;unfold SX at h;rw[kA]at h;cases aa:Nat.beq g 364 with
 |true=>
  rw[aa,cF]at h;obtain rfl:=ed aa;split at h
  ·rename_i l k;rw[kA]at h;cases ae:Nat.blt k 256 with
   |false=>rw[ae]at h;cases h
   |true=>
    rw[ae,cF]at h;have hR:k<256:=Nat.blt_eq ▸ ae;cases h;simp only[bO,aU]at hu;obtain⟨x,xs,rfl,⟨y,ys,rfl,rfl,rfl⟩,rfl⟩:=hu;have pY:(UInt8.ofNat k).toNat=k:=by simp;omega
    have:=Xi (I:=I) (M:=M) ⟨l.toArray⟩ (UInt8.ofNat k);rw[pY]at this;refine Spec.mH this ?_;rintro r I' M'⟨rfl,rfl,rfl⟩;refine⟨D,bR.pe,?_,hm⟩;simp only[aU];have:=abU (UInt8.ofNat k) l 0;rw[pY]at this;rw[this];split;·rename_i e;simp[e]
    ·simp
  ·cases h
 |false=>
 rw[aa,cE,kA]at h;cases ad:Nat.beq g 322 with
 |true=>
  rw[ad,cF]at h;obtain rfl:=ed ad;split at h;·cases h;simp only[bO]at hu;obtain⟨x,xs,hu,rfl,rfl⟩:=hu;refine Spec.mH (PP _) ?_;rintro r I' M'⟨rfl,rfl,rfl⟩;exact⟨D,bR.pe,hu,hm⟩
  ·cases h
 |false=>
 rw[ad,cE,kA]at h;cases ak:Nat.beq g 302 with
 |true=>
  rw[ak,cF]at h;obtain rfl:=ed ak;split at h;·obtain⟨⟨w9,jw⟩,aK,bz⟩:=ct anS;obtain⟨L,cu,ep⟩:=ct bz;cases ep;exact anH (Y:=vx) aY abV abW aK cu (λD us h=>by simpa only[bO]using h) h hu hm
  ·cases h
 |false=>
 rw[ak,cE,kA]at h;cases aK:Nat.beq g 300 with
 |true=>rw[aK,cF]at h;obtain rfl:=ed aK;exact anN rfl rfl h hu hm
 |false=>
 rw[aK,cE]at h;cases h
def abZ(be:e2 I dA){m':bw}{v:ap}(h:yH vx (lF vx f) g args ⟨.nil,0⟩=some (v,m'))(hu:bO (λ_=>none) args us) :
  Spec Tryz.prog g us I [] λr J kQ=>kQ=[]/\(∀ b o,I b=some o->J b=some o)/\∃ I' M' bG,aU bG v r/\dh vx bG m' I' M'/\ub I' M' J:=by
 have hm:dh vx (λ_=>none) ⟨.nil,0⟩ I []:=⟨λid e a h bq=>(by cases bq),λid jb e cZ a bL h aa bq=>(by cases bq),λid a h=>(by cases h),anR be⟩;refine Spec.mH (reckon (Y:=vx) aY abV anT abW h hu hm).jz ?_;rintro r J kQ⟨rfl,aa,I',M',⟨bG,-,ad,ak⟩,aK⟩;exact⟨rfl,aa,I',M',bG,ad,ak,aK⟩
def anU:∀ {l:List Int} (h:0<l.length),l.headD 0=l[0]
 |a::l,_=>rfl
def oo(ns:List al)(xs:List aW):Bool:=ns.any λd=>decide (d.k=6)&&(decide (d.hi=-1)&&(xs.getD (d.au.headD 0).toNat cf).z)
def anV(p:α->Bool)(l:List α)(x:α):(l++[x]).any p=(l.any p||p x):=by simp
def anW{p:α->Bool}{l:List α}{i:Nat}(h:(l.take i).any p=true):l.any p=true:=by rw[Fu]at h |-;obtain⟨x,ab,aJ⟩:=h;exact⟨x,sA ab,aJ⟩
def anX{t:bk}(aq:t.ok I)(af:right t=true){xa:Option Addr}{xc:Nat}{xs:List aW}(ab:l' I M0 xa t.n xs):Spec Tryz.prog 220 [t.val,.slice xa t.n xc] I M0 λv I' M'=>v=.bool (oo t.ns xs)/\I'=I/\M'=M0:=by
 refine bV [] aY Tryz.func220 rfl rfl rfl ?_;intro B ay;have hk:=aq.n;have hA:=aq.a'.cap;have om:=ab.n;refine dt.inv (ι:=Nat) (λi=>{ bo:=[(1,.val (.slice xa t.n xc)),(8,.val (.slice t.a t.n t.c)),(9,.val (.int .i64 t.n)),(10,.val (.int .i64 i))],cH:=I,dd:=M0 }) (λi=>i<=t.n/\(t.ns.take i).any (λd=>decide (d.k=6)&&(decide (d.hi=-1)&&(xs.getD (d.au.headD 0).toNat cf).z))=false) (λi=>t.n-i) ?_ ?_
 ·exact⟨0,⟨dp _,rfl⟩,.refl,ee,.nil⟩
 rintro i⟨hi,eK⟩;refine aX.mk (λh=>?_) (λh=>?_)
 rotate_left
 ·have c0:i=t.n:=by have:¬ (i:Int)<(t.n:Int):=dv h;omega
  rw[fC (by omega)]at eK;refine⟨_,_,.refl,?_,rfl,rfl⟩;rw[oo,eK]
 have aZ:i<t.n:=by have:(i:Int)<(t.n:Int):=cJ h;omega
 have cy:i<t.ns.length:=by omega
 obtain⟨aM,bB,bp⟩:=aq.a'.row al.cL aZ cy;have ah:=aq.ns _ (bJ cy);have tN:=Em af cy;have hZ:=ly af i cy;have fj:=ah.aG;have mF:(t.ns.take (i+1)).any (λd=>decide (d.k=6)&&(decide (d.hi=-1)&&(xs.getD (d.au.headD 0).toNat cf).z))=(decide (t.ns[i].k=6)&&(decide (t.ns[i].hi=-1)&&(xs.getD (t.ns[i].au.headD 0).toNat cf).z)):=by rw[gj cy,anV,eK,uM]
 generalize t.ns[i]=d at bp ah tN hZ fj mF;refine bm.mk aM i bB rfl aZ ?_;refine aO.mk _ (bp _) ?_;refine bX.mk (λcu=>?_) (λcu=>?_)
 rotate_left
 ·have MZ:decide (d.k=6)=false:=cu;rw[MZ]at mF;refine bd.mk _ (c8 (i:=i) (by omega)) ?_;exact⟨i+1,⟨⟨aZ,mF⟩,by omega⟩,.refl,ee,.nil⟩
 have MZ:decide (d.k=6)=true:=cu;have av7:d.k=6:=cJ MZ;rw[MZ,qC]at mF;refine bX.mk (λaa=>?_) (λaa=>?_)
 rotate_left
 ·have wB:decide (d.hi=-1)=false:=aa;rw[wB]at mF;refine bd.mk _ (c8 (i:=i) (by omega)) ?_;exact⟨i+1,⟨⟨aZ,mF⟩,by omega⟩,.refl,ee,.nil⟩
 have wB:decide (d.hi=-1)=true:=aa;rw[wB,qC]at mF;have lx:0<d.au.length:=by have:=YF ah.k.1 tN (by omega);omega
 obtain⟨gn,fo,fh⟩:=ah.a'.one (j:=0) (by omega) lx;have aj:=hZ _ (bJ lx);have cG:d.au.headD 0=d.au[0]:=anU lx;rw[cG]at mF;have hC:d.au[0].toNat<xs.length:=by omega
 obtain⟨SY,SZ,uc⟩:=ab.rd _ hC;have aw:xs.getD d.au[0].toNat cf=xs[d.au[0].toNat]:=by simp[bS,hC]
 rw[aw]at mF;refine bm.mk gn 0 fo rfl (by omega) ?_;refine aO.mk _ (fh _) ?_;refine bm.mk SY d.au[0].toNat SZ (by omega) (by omega) ?_;refine aO.mk _ (uc.part (k:=0) (m:=1) (by decide)) ?_;refine aX.mk (λbb=>?_) (λbb=>?_)
 ·have gK:xs[d.au[0].toNat].z=true:=bb;refine⟨_,_,.refl,?_,rfl,rfl⟩;rw[oo,anW (i:=i+1) (by rw[mF,gK])]
 ·have gK:xs[d.au[0].toNat].z=false:=bb;rw[gK]at mF;refine bd.mk _ (c8 (i:=i) (by omega)) ?_;exact⟨i+1,⟨⟨aZ,mF⟩,by omega⟩,.refl,ee,.nil⟩
def dV.mark(s:dV)(i k:Nat):dV:=⟨s.n,s.m.set i (s.m.getD i 0 ||| lC k),s.w⟩
def kD(b:Nat)(s:dV):aE:=⟨b,.cells s.cells.toArray 205 (0,0)⟩
def dV.cL(s:dV):s.cells.length=66:=by simp[dV.cells,t']
def anY{b:Nat}{s:dV}(ba:kD b s∈M)(ai:j<64):cR I M (((⟨b,0,none⟩:Addr).add 1).add (j*1)) 1 [o9 (s.m.getD j 0)]:=by rw[eS (⟨b,0,none⟩:Addr) rfl,eS _ rfl];refine⟨rfl,_,_,_,.inr ⟨_,ba,rfl,rfl⟩,?_,rfl⟩;simp only[du,gM];show(s.cells.drop (1+j)).take 1=_;rw[dV.cells,GA 1 j,Ig,Q9 (by rw[t'];omega),fg (by rw[t'];exact ai),pN,rl,qo];simp[k7]
def anZ{s:dV}(av:s.m.length=64){i k:Nat}(hi:i<64):cj s.cells (0+1+i*1) [o9 (s.m.getD i 0 ||| lC k)]=(s.mark i k).cells:=by
 unfold dV.cells dV.mark;simp only;have aI:cj (Value.int .i64 s.n::(k7 s.m++[o9 s.w])) (0+1+i*1) [o9 (s.m.getD i 0 ||| lC k)]=Value.int .i64 s.n::(cj (k7 s.m) (0+i*1) [o9 (s.m.getD i 0 ||| lC k)]++[o9 s.w]):=by have h:=aag [Value.int .i64 s.n] (k7 s.m) [o9 s.w] i [o9 (s.m.getD i 0 ||| lC k)] (by rw[t'];show i+1<=64;omega);simp only[od,qG,et,hB,du,gM]at h |-;exact h
 rw[aI,aaq s.m av i hi]
def ck.an0{b x y:Nat}{vs:List Value}{K:List aE->Prop}(a9 post:List aE)(cs:List Value)(T:Nat)(ba:M=a9++⟨b,.cells cs.toArray T (0,0)⟩::post)(ag:0+x+y+vs.length<=cs.length)(aa:fK vs=true)
  (cs':List Value) (he:cj cs (0+x+y) vs=cs') (h:K (a9++⟨b,.cells cs'.toArray T (0,0)⟩::post)):ck M (((⟨b,0,none⟩:Addr).add x).add y) vs K:=by
 rw[eS (⟨b,0,none⟩:Addr) rfl,eS _ rfl];exact ck.rS a9 post cs.toArray T ba rfl (by rw[nR];simpa using ag) aa cs' he h
def an1{M1:List aE}{g:cU}(aw:g.ok I){nm:ByteArray}{k:Nat}(ae:eV nm g.ds 0=k)(S0:k<64){b6 b7 i:Nat}(hi:i<64){s:dV}(av:s.m.length=64)(aa:(⟨b1,.cells #[.slice g.a g.n g.c] 30 (0,0)⟩:aE)∈M1)(ep:(⟨b7,.cells #[.int .i64 i] 3 (0,0)⟩:aE)∈M1) :
  Spec Tryz.prog 219 [.string nm,ptr b1,ptr b6,ptr b7] I (kD b6 s::M1) λv I' M'=>I'=I/\M'=kD b6 (s.mark i k)::M1:=by
 refine bV [] aY Tryz.func219 rfl rfl rfl ?_;intro B ay;refine aO.mk [.slice g.a g.n g.c] ⟨rfl,_,_,_,.inr ⟨_,.tail _ aa,rfl,rfl⟩,rfl,rfl⟩ ?_;have aB:Spec Tryz.prog 124 [g.val,.string nm] I (kD b6 s::M1) λv I' M'=>v=.int .i64 k/\I'=I/\M'=kD b6 s::M1:=by refine Spec.mH (Spec.frame (ai0 aw nm)) ?_;rintro v J M⟨M',rfl,-,-,rfl,rfl,rfl⟩;rw[ae];exact⟨rfl,rfl,rfl⟩
 refine a8.whole _ aB ?_;rintro v J N -⟨rfl,a5,ho⟩;subst J;subst N;refine aX.mk (λ_=>?_) (λh=>?_)
 rotate_left
 ·have:¬ (0:Int)<=(k:Int):=dv h;omega
 refine cT.draw aY rfl rfl rfl ?_;refine aO.mk [.int .i64 i] ⟨rfl,_,_,_,.inr ⟨_,.tail _ ep,rfl,rfl⟩,rfl,rfl⟩ ?_;refine cw.mk i rfl hi ?_;refine aO.mk _ (anY (.head _) hi) ?_;refine sm.mk k rfl ?_;refine bd.mk _ (RW S0) ?_;refine cw.mk i rfl hi ?_;refine ck.an0 [] M1 s.cells _ rfl ?_ rfl (s.mark i k).cells ?_ ?_
 ·rw[dV.cL];show 0+1+i*1+1<=66;omega
 ·show cj s.cells (0+1+i*1) [Value.int .u64 (k6 (s.m.getD i 0).toNat (lC k).toNat)]=_;rw[tZ];exact anZ av hi
 exact⟨_,_,.refl,rfl,rfl⟩
section
end
structure an2(d:al)(n:Int):Prop where
 z:d.k=0->d.t=⟨#[]⟩
 leaf:d.k<=3->n=0
 one:6<=d.k->n=1
 two:d.k=4\/d.k=5->2<=n
def ab0{d:al}{n:Int}(ay:0<=d.k)(h:fits d n=true):an2 d n:=by
 have av:=(PV h).k;have ae:d.k=0\/d.k=1\/d.k=2\/d.k=3\/d.k=4\/d.k=5\/d.k=6\/d.k=7\/d.k=8\/d.k=9:=by omega
 have dz:∀ j:Fin 10,oR j.val=jG.getD (j.val*2) 0/\nH j.val=jG.getD (j.val*2+1) 0:=by decide
 unfold fits at h;rcases ae with e | e | e | e | e | e | e | e | e | e<;>rw[e]at h<;>simp[oR,nH,jG]at h <;>
  refine⟨λq=>?_,λq=>?_,λq=>?_,λq=>?_⟩<;>first | (omega;done) | (exact h.2.2.1;done) | (exact h.2.1;done) | (simp_all;done)
def ab1(nm:ByteArray):∀ (ds:List a3) (i:Nat),eV nm ds i=bif decide (eV nm ds 0<0)then -1 else eV nm ds 0+i
 |[],i=>rfl
 |d::ds,i=>by
  unfold eV;cases h:decide (d.name=nm)with
  |true=>
   have:decide ((((0:Nat):Int))<0)=false:=by decide
   simp[this]
  |false=>
   rw[cE,cE,ab1 nm ds (i+1),ab1 nm ds (0+1)];have af:eV nm ds 0<0\/0<=eV nm ds 0:=by omega
   rcases af with af | af;·rw[iX af];rfl
   ·have e:decide (eV nm ds 0<0)=false:=eY (by omega);rw[e,cE,cE];have a6:decide (eV nm ds 0+((0+1:Nat):Int)<0)=false:=eY (by omega);rw[a6,cE];omega
def ab2(nm:ByteArray)(av cz:List a3):eV nm (av++cz) 0=bif decide (eV nm av 0<0)then eV nm cz av.length else eV nm av 0:=by
 have key:∀ (av:List a3) (i:Nat),eV nm (av++cz) i=bif decide (eV nm av i<0)then eV nm cz (i+av.length)else eV nm av i:=by
  intro av
  induction av with
  |nil=>intro i;simp[eV]
  |cons d av aQ=>
   intro i;rw[pN,eV,eV];cases decide (d.name=nm)with
   |true=>have:decide ((i:Int)<0)=false:=eY (by omega);rw[cF,cF,this,cE]| false=>rw[cE,cE,aQ (i+1),et];rw[show i+1+av.length=i+(av.length+1)from by omega]
 have:=key av 0;rwa [du]at this
structure FH(av:List a3)(a2:List (ByteArray×Int)):Prop where
 look:∀ nm,(eW nm a2).isSome=decide (0<=eV nm av 0)
def ab3(nm:ByteArray)(p:ByteArray×Int):∀ a2:List (ByteArray×Int),(eW nm (a2++[p])).isSome=((eW nm a2).isSome||decide (nm=p.1))
 |[]=>by
  show(bif decide (nm=p.1)then some p.2 else none:Option Int).isSome=_;cases decide (nm=p.1)<;>rfl
 |q::a2=>by
  rw[pN,eW,eW];cases decide (nm=q.1)with
  |true=>rfl| false=>rw[cE,cE,ab3 nm p a2]
def FH.snoc{av:List a3}{a2:List (ByteArray×Int)}(h:FH av a2)(d:a3)(v:Int):FH (av++[d]) (a2++[(d.name,v)]):=by
 refine⟨λnm=>?_⟩;rw[ab3,h.look,ab2];by_cases af:eV nm av 0<0
 ·rw[iX af,cF,eY (by omega:¬ 0<=eV nm av 0),uM];unfold eV;have:decide (d.name=nm)=decide (nm=d.name):=decide_eq_decide.2 ⟨Eq.symm,Eq.symm⟩;rw[this];cases decide (nm=d.name)with
  |true=>simp| false=>rw[cE];rfl
 ·rw[eY af,cE,iX (by omega:0<=eV nm av 0),Bool.true_or]
def p7(ds:List a3)(i:Nat):Bool:=match ds[i]? with
 |some d=>decide (eV d.name ds 0=i)| none=>true
def an3(d:a3)(cz:List a3)(i:Nat):eV d.name (d::cz) i=i:=by rw[eV,iX rfl];rfl
def an4(cz:List a3):∀ (av:List a3) (a2:List (ByteArray×Int)),FH av a2->(∀ i,i<av.length->p7 (av++cz) i=true) ->
  match l7 a2 av.length cz with
  |none=>∃ i,i<(av++cz).length/\p7 (av++cz) i=false/\∀ k,k<i->p7 (av++cz) k=true| some r=>FH (av++cz) r/\∀ i,i<(av++cz).length->p7 (av++cz) i=true:=by
 induction cz with
 |nil=>intro av a2 h aB;rw[dF]at *;exact⟨h,aB⟩
 |cons d cz aQ=>
  intro av a2 h aB;have e5:(av++d::cz)[av.length]?=some d:=by simp
  have pD:p7 (av++d::cz) av.length=!(eW d.name a2).isSome:=by
   unfold p7;rw[e5,h.look];simp only;rw[ab2];by_cases af:eV d.name av 0<0;·rw[iX af,cF,an3];simp;omega
   ·rw[eY af,cE];have aZ:eV d.name av 0<av.length:=by
     have:∀ (av:List a3) (i:Nat),0<=eV d.name av i->eV d.name av i<i+av.length:=by
      intro av
      induction av with
      |nil=>intro i h;simp[eV]at h
      |cons e av S1=>
       intro i h;unfold eV at h |-;cases ao:decide (e.name=d.name)with
       |true=>simp;omega| false=>rw[ao,cE]at h;rw[cE];have:=S1 (i+1) h;simp;omega
     have:=this av 0 (by omega);omega
    have aI:decide (eV d.name av 0=(av.length:Int))=false:=eY (by omega);have a6:decide (0<=eV d.name av 0)=true:=iX (by omega);rw[aI,a6];rfl
  rw[l7];cases ax:(eW d.name a2).isSome with
  |true=>rw[ax]at pD;exact⟨av.length,by simp,pD,aB⟩
  |false=>
   rw[ax]at pD;have:=aQ (av++[d]) (a2++[(d.name,(av.length:Int))]) (h.snoc d _) (λi hi=>by
    rw[dW];simp at hi;rcases Nat.lt_or_eq_of_le (Nat.lt_succ_iff.1 (by omega:i<av.length+1))with aa | aa;·exact aB i aa
    ·rw[aa];exact pD)
   rw[cr,dW]at this;exact this
def an5:FH [] []:=⟨λnm=>by simp[eW,eV]⟩
def yV(ds:List a3)(n:al):Bool:=!decide (n.k=3)||decide (0<=eV n.t ds 0)
def ab4(p:al->Bool):∀ (ds:List a3) (i:Nat),((qH i ds).all λx=>p x.2)=ds.all λd=>d.t.ns.all p
 |[],i=>rfl| d::ds,i=>by rw[qH,Ho,xA,ab4 p ds (i+1),Lw];rfl
def M2(az:List Int)(g:cU):Int:=
 bif decide ((g.n:Int)=0)then 4 else bif !oa g.ds then 4 else bif pV az g then 40 else
 bif !(List.range g.ds.length).all (p7 g.ds)then 6 else bif g.ds.all λd=>d.t.ns.all (yV g.ds)then 0 else 41
def ab5(az:List Int)(g:cU):M2 az g=c6 az g:=by
 unfold M2 c6;have h:=an4 g.ds [] [] an5 (λi hi=>by simp at hi);simp only[hB,hX]at h;cases ah:l7 [] 0 g.ds with
 |none=>
  rw[ah]at h;obtain⟨i,aa,ad,_⟩:=h;have:(List.range g.ds.length).all (p7 g.ds)=false:=by rw[Bool.eq_false_iff];intro eO;rw[fS]at eO;have:=eO i (j9.2 aa);rw[ad]at this;cases this
  rw[this];rfl
 |some a2=>
  rw[ah]at h;obtain⟨aa,ad⟩:=h;have ak:(List.range g.ds.length).all (p7 g.ds)=true:=by rw[fS];intro i hi;exact ad i (j9.1 hi)
  rw[ak];have aK:(g.ds.all λd=>d.t.ns.all (yV g.ds))=rP a2 g.ds:=by unfold rP;rw[ab4];congr 1;funext d;congr 1;funext n;unfold Ac yV;rw[aa.look]
  rw[aK];rfl
def ab6(nm:ByteArray):∀ (ds:List a3) (i:Nat),yx nm ds i=bif decide (eV nm ds i<0)then none else some (eV nm ds i)
 |[],i=>rfl
 |d::ds,i=>by
  unfold yx eV;rw[show decide (nm=d.name)=decide (d.name=nm) by rw[tc];simp[eq_comm]];cases decide (d.name=nm)with
  |true=>rw[cF,cF,eY (by omega)];rfl| false=>rw[cE,cE];exact ab6 nm ds (i+1)
def an6(nm:ByteArray)(ds:List a3):eW nm (bM ds)=bif decide (eV nm ds 0<0)then none else some (eV nm ds 0):=by rw[QK,ab6]
def ab7{nm:ByteArray}{ds:List a3}(h:(eW nm (bM ds)).isSome=true):∃ q:Nat,eV nm ds 0=q/\q<ds.length/\((eW nm (bM ds)).getD 0).toNat=q:=by
 have l0:=an6 nm ds;cases ah:decide (eV nm ds 0<0)with
 |true=>rw[ah,cF]at l0;rw[l0]at h;cases h| false=>rw[ah,cE]at l0;have aK:¬ eV nm ds 0<0:=dv ah;obtain⟨q,aL⟩:=eG (by omega:0<=eV nm ds 0);have ab8:=l0;rw[QK]at ab8;obtain⟨j,K9,tz⟩:=QL ab8;refine⟨q,aL,by omega,?_⟩;rw[l0,aL];rfl
def dV.marks(s:dV)(i:Nat)(l:List Nat):dV:=l.foldl (λs k=>s.mark i k) s
def dV.ab9(s:dV)(i:Nat)(l m:List Nat):s.marks i (l++m)=(s.marks i l).marks i m:=tL
def dV.FI:∀ (l:List Nat) (s:dV) (i:Nat),(s.marks i l).m.length=s.m.length
 |[],s,i=>rfl| k::l,s,i=>by have:=dV.FI l (s.mark i k) i;unfold dV.marks at this |-;rw[km,this];simp[dV.mark]
def S2(b1 b6 b7:Nat):Value:=.func (.func 219) #[] #[ptr b1,ptr b6,ptr b7]
def aca{I:aH}{g:cU}(aw:g.ok I)(lI:g.n<=64){t:bk}(aq:t.ok I)(iy:vl t)(af:right t=true)(eK:wO (bM g.ds) t.ns=true){F:List aW}{M1:List aE}{b1 b6 b7 i:Nat}(hi:i<64)(aa:(⟨b1,.cells #[.slice g.a g.n g.c] 30 (0,0)⟩:aE)∈M1)(ep:(⟨b7,.cells #[.int .i64 i] 3 (0,0)⟩:aE)∈M1){xa:Option Addr}{xc:Nat}(ab:l' I M1 xa t.n (eB (bM g.ds) F t.ns [])) : ∀ (m j:Nat),j<m->∀ (ai:j<t.ns.length) (s:dV) (av:s.m.length=64),Spec Tryz.prog 218 [t.val,.slice xa t.n xc,.int .i64 j,S2 b1 b6 b7] I (kD b6 s::M1) λv I' M'=>I'=I/\M'=kD b6 (s.marks i (gv (bM g.ds) F t.ns j).2)::M1
 |0,j,h,_,_,_=>absurd h (ng _)
 |m+1,j,acb,ai,s,av=>by
  have aQ:=aca (b6:=b6) (xc:=xc) aw lI aq iy af eK hi aa ep ab m;have hk:=aq.n;have iG:=aw.n;have g9:=bJ ai;have ah:=aq.ns _ g9;have fj:=ah.aG;have S3:=iy _ g9;have iu:=Em af ai;have S4:=ab0 ah.k.1 iu;have hZ:=ly af j ai;have mu:=fS.1 eK _ g9;have bf:=Q1 (pl:=bM g.ds) (F:=F) af ai;have kg:=H5 (bM g.ds) F t.ns [];simp only[hB,du]at kg;obtain⟨aM,bB,bp⟩:=aq.a'.row al.cL (show j<t.n by omega) ai;have sF:(gv (bM g.ds) F t.ns j).2=lB (bM g.ds) t.ns[j] (t.ns[j].au.map (gv (bM g.ds) F t.ns)):=by rw[bf];rfl
  rw[sF];clear bf sF;have AU:∀ q (h:q<t.ns[j].au.length),∃ k:Nat,t.ns[j].au[q]=k/\k<j:=λq h=>by have:=hZ _ (bJ h);exact⟨t.ns[j].au[q].toNat,by omega,by omega⟩
  generalize t.ns[j]=d at *;refine bV [] aY Tryz.func218 rfl rfl rfl ?_;intro B ay;refine bm.mk aM j bB rfl (by omega) ?_;refine aO.mk _ (bp _) ?_;refine aX.mk (λe=>?_) (λcq=>?_);·have e:d.k=3:=cJ e;obtain⟨q,H6,tO,S5⟩:=ab7 (nm:=d.t) (ds:=g.ds) (by simpa[e]using mu);refine a8.whole _ (an1 aw H6 (by omega) hi av aa ep) ?_;rintro v J N -⟨a5,ho⟩;subst J;subst N;refine⟨_,_,.refl,rfl,?_⟩;rw[lB,iX e,cF,S5];rfl
  have cq:¬ d.k=3:=dv cq;refine aX.mk (λe=>?_) (λdS=>?_)
  ·have e:d.k=4:=cJ e;have Df:lB (bM g.ds) d (d.au.map (gv (bM g.ds) F t.ns))=ki (d.au.map (gv (bM g.ds) F t.ns)):=by rw[lB,eY cq,iX e];rfl
   rw[Df];refine dt.inv (ι:=Nat×dV) (λx=>{ bo:=[(1,.val (.slice xa t.n xc)),(3,.val (S2 b1 b6 b7)),(4,.ref 4 0),(42,.val (.slice d.b0 d.aG d.ch)),(43,.val (.int .i64 d.aG)),(44,.val (.int .i64 x.1))],cl:=[(4,t.cells)],cH:=I,dd:=kD b6 x.2::M1 }) (λx=>x.1<=d.aG/\x.2.m.length=64/\s.marks i (ki (d.au.map (gv (bM g.ds) F t.ns)))=x.2.marks i (ki ((d.au.drop x.1).map (gv (bM g.ds) F t.ns)))) (λx=>d.aG-x.1) ?_ ?_;·exact⟨(0,s),⟨dp _,av,rfl⟩,.refl,zz,.cons rfl (.nil)⟩
   rintro⟨q,cg⟩⟨aL,oD,fv⟩;simp only at aL oD fv;refine aX.mk (λh=>?_) (λh=>?_)
   rotate_left
   ·have c0:d.au.length<=q:=by have:¬ (q:Int)<(d.aG:Int):=dv h;omega
    rw[sT c0]at fv;refine⟨_,_,.refl,rfl,?_⟩;rw[fv];rfl
   have aZ:q<d.aG:=by have:(q:Int)<(d.aG:Int):=cJ h;omega
   have cy:q<d.au.length:=by omega
   obtain⟨gn,fo,fh⟩:=ah.a'.one aZ cy;obtain⟨k,ae,Je⟩:=AU q cy;rw[ae]at fh;have acc:k<(eB (bM g.ds) F t.ns []).length:=by omega
   obtain⟨SY,SZ,uc⟩:=ab.rd k acc;have ie:(d.au.drop q).map (gv (bM g.ds) F t.ns)=gv (bM g.ds) F t.ns k::(d.au.drop (q+1)).map (gv (bM g.ds) F t.ns):=by rw[fg cy,b5,ae]
   have l8:(gv (bM g.ds) F t.ns k).1=(eB (bM g.ds) F t.ns [])[k]:=by rw[Q2];simp[bS,acc]
   rw[ie,ki,l8,dV.ab9]at fv;refine bm.mk gn q fo rfl aZ ?_;refine aO.mk _ (fh _) ?_;refine a8.whole _ (aQ k (by omega) (by omega) cg oD) ?_;rintro v J N -⟨a5,ho⟩;subst J;subst N;refine bm.mk SY k SZ rfl (by omega) ?_;refine aO.mk _ ((uc.sub λx ab=>.tail _ ab).part (k:=0) (m:=1) (by decide)) ?_;refine aX.mk (λbb=>?_) (λbb=>?_)
   ·have gK:(eB (bM g.ds) F t.ns [])[k].z=false:=by simpa using bb
    rw[gK]at fv;refine⟨_,_,.refl,rfl,?_⟩;rw[fv];rfl
   ·have gK:(eB (bM g.ds) F t.ns [])[k].z=true:=by simpa using bb
    rw[gK]at fv;refine bd.mk _ (c8 (i:=q) (by omega)) ?_;exact⟨(q+1,cg.marks i (gv (bM g.ds) F t.ns k).2),⟨⟨aZ,by rw[dV.FI];exact oD,fv⟩,by simp only;omega⟩,.refl,zz,.cons rfl (.nil)⟩
  have dS:¬ d.k=4:=dv dS;refine aX.mk (λe=>?_) (λnh=>?_)
  ·have e:d.k=6:=cJ e;have an7:=S4.one (by omega);have lx:0<d.au.length:=by omega
   refine aX.mk (λcG=>?_) (λcG=>?_)
   ·have BO:decide (d.hi=0)=false:=by have BN:(!decide (d.hi=0))=true:=cG;simpa using BN
    obtain⟨gn,fo,fh⟩:=ah.a'.one (j:=0) (by omega) lx;obtain⟨k,ae,Je⟩:=AU 0 lx;rw[ae]at fh;have Df:lB (bM g.ds) d (d.au.map (gv (bM g.ds) F t.ns))=(gv (bM g.ds) F t.ns k).2:=by
     have e0:d.au=[(k:Int)]:=by
      match ab:d.au,lx,an7,ae with
      |[a],_,_,ae=>simp only[tp]at ae;rw[ae]| _::_::_,_,h,_=>simp at h;omega
     rw[lB,eY cq,eY dS,BO,e0];simp
    rw[Df];refine cT.draw aY rfl rfl rfl ?_;refine bm.mk gn 0 fo rfl (by omega) ?_;refine aO.mk _ (fh _) ?_;refine a8.whole _ (aQ k (by omega) (by omega) s av) ?_;rintro v J N -⟨a5,ho⟩;subst J;subst N;exact⟨_,_,.refl,rfl,rfl⟩
   ·have BO:decide (d.hi=0)=true:=by have BN:(!decide (d.hi=0))=false:=cG;simpa using BN
    have Df:lB (bM g.ds) d (d.au.map (gv (bM g.ds) F t.ns))=[]:=by rw[lB,eY cq,eY dS,iX e,BO];rfl
    rw[Df];exact⟨_,_,.refl,rfl,rfl⟩
  have nh:¬ d.k=6:=dv nh;have Df:lB (bM g.ds) d (d.au.map (gv (bM g.ds) F t.ns))=(d.au.map (gv (bM g.ds) F t.ns)).flatMap (·.2):=by rw[lB,eY cq,eY dS,eY nh];rfl
  rw[Df];refine dt.inv (ι:=Nat×dV) (λx=>{ bo:=[(1,.val (.slice xa t.n xc)),(3,.val (S2 b1 b6 b7)),(4,.ref 4 0),(21,.val (.slice d.b0 d.aG d.ch)),(22,.val (.int .i64 d.aG)),(23,.val (.int .i64 x.1))],cl:=[(4,t.cells)],cH:=I,dd:=kD b6 x.2::M1 }) (λx=>x.1<=d.aG/\x.2.m.length=64/\s.marks i ((d.au.map (gv (bM g.ds) F t.ns)).flatMap (·.2))=x.2.marks i (((d.au.drop x.1).map (gv (bM g.ds) F t.ns)).flatMap (·.2))) (λx=>d.aG-x.1) ?_ ?_;·exact⟨(0,s),⟨dp _,av,rfl⟩,.refl,zz,.cons rfl (.nil)⟩
  rintro⟨q,cg⟩⟨aL,oD,fv⟩;simp only at aL oD fv;refine aX.mk (λh=>?_) (λh=>?_)
  rotate_left
  ·have c0:d.au.length<=q:=by have:¬ (q:Int)<(d.aG:Int):=dv h;omega
   rw[sT c0]at fv;refine⟨_,_,.refl,rfl,?_⟩;rw[fv];rfl
  have aZ:q<d.aG:=by have:(q:Int)<(d.aG:Int):=cJ h;omega
  have cy:q<d.au.length:=by omega
  obtain⟨gn,fo,fh⟩:=ah.a'.one aZ cy;obtain⟨k,ae,Je⟩:=AU q cy;rw[ae]at fh;rw[fg cy,b5,ae,iS,dV.ab9]at fv;refine bm.mk gn q fo rfl aZ ?_;refine aO.mk _ (fh _) ?_;refine a8.whole _ (aQ k (by omega) (by omega) cg oD) ?_;rintro v J N -⟨a5,ho⟩;subst J;subst N;refine bd.mk _ (c8 (i:=q) (by omega)) ?_;exact⟨(q+1,cg.marks i (gv (bM g.ds) F t.ns k).2),⟨⟨aZ,by rw[dV.FI];exact oD,fv⟩,by simp only;omega⟩,.refl,zz,.cons rfl (.nil)⟩
end Go.V
