/- Part 6 of what the proofs of this seat share: the executor, data in memory, walks.
-/
import Derived.Test.YtmncamccjfmbpaaGreatDoorK5
import Derived.Lib.SliceRun
import Derived.Test.YtmncamccjfmbpaaGreatDoorK3
import Derived.Test.YtmncamccjfmbpaaGreatDoorK4
set_option linter.all false
set_option maxHeartbeats 8000000
set_option maxRecDepth 100000
namespace Go.V
open Go
def ot:=@Nat.not_lt_zero
def yV:=@List.any_eq_true
def L9:=@List.reverse_reverse
variable{l3:TypeDesc}{g n t e cf b1 hB j f n0:Nat}{arr:Array Value}{x os nA lo hi mx:Operand}{cq xs u1 us:List Value}{c4 a:Option Addr}{w w':World}{u kB:Value}{ut:Option dt}{aB lu c8:dt}{R α:Type}{cs:a8 ao}{args:List ao}{eX:Array Nat}{P:Program}{E:Env}{ch gI:IntKind}{op:Op}{dst:Option Nat}{D bk D0:bz}{F F':Fr}{call:ao->List ao->be->Option (ao×be)}{ops:List Oper}{b:Bool}{β:Nat->Nat}{X:cB}{Q:Exit->Act->World->Prop}{Y:fJ}{I dj I':aM}{M M0 M':List aE}{row:List (Nat×Nat)}{ex:qA}{ps:List Nat}{et body:Code}{gi:Loc}{G:GT}{pr:kt}{ds:List a2}
section
variable{P:Program}{w:World}
def T3(t u ty e:Nat)(i:TypeInfo)(aw:P.underlying t=some (.slice e))(hu:P.underlying u=some l3)(mG:∀ k,l3≠.int k)(hi:P.info? e=some i)
 {off c T:Nat} (ax:w.heap[g]?=some (.cells arr T (0,0))) {x:Value} {m:Nat} (aa:∀ v∈cq,v.oneCell'=true)
  (cu:∀ w',(Builtin.lenOf x).run P w'=.ok m w') (eZ:(Builtin.firstCells i.size m x).run P w=.ok cq.toArray w) (ur:n+m<=c) (gJ:off+n*i.size+cq.length<=arr.size) :
  (Builtin.append_ #[t,u] ty #[.slice (some ⟨g,off,none⟩) n c,x]).run P w=.ok (.slice (some ⟨g,off,none⟩) (n+m) c) (w.setRow g (bQ arr.toList (off+n*i.size) cq).toArray):=by
 have Cg:(match l3 with | .int _=>true | _=>false)=false:=by cases l3<;>first | rfl | exact(mG _ rfl).elim
 have hL:=run_storeCells_at P g (off+n*i.size) T cq 0 arr w ax (by simpa using gJ) aa;simp only[ms]at hL;have adZ:(Addr.add ⟨g,off,none⟩ (n*i.size))=⟨g,off+n*i.size,none⟩:=dY _ rfl _;simp[Builtin.append_,run_underlying aw,run_underlying hu,sizeOf,typeInfo,hi,cu,ur,eZ,adZ,hL,bQ]
def ad0(t u ty e:Nat)(i:TypeInfo)(z:Value)(aw:P.underlying t=some (.slice e))(hu:P.underlying u=some l3)(mG:∀ k,l3≠.int k)(hi:P.info? e=some i)(a':i.zero=some z)(uo:z.cells.size=i.size)
 {c:Nat} (hold:(Builtin.firstCells i.size n (.slice c4 n c)).run P w.drew=.ok xs.toArray w.drew) (u2:xs.length=n*i.size) {x:Value} {m:Nat} (av:cq.length=m*i.size)
  (cu:∀ w',(Builtin.lenOf x).run P w'=.ok m w') (eZ:(Builtin.firstCells i.size m x).run P w.drew=.ok cq.toArray w.drew) (ur:c<n+m) (b1:n+m<=maxLen) (cd:(n+m)*i.bytes<=140737488355328) :
  ∃ cap aS,(Builtin.append_ #[t,u] ty #[.slice c4 n c,x]).run P w=.ok (.slice (some ⟨w.heap.size,0,none⟩) (n+m) cap) (w.drew.alloc (.cells (xs++cq++aS).toArray e (0,0)))/\n+m<=cap/\cap<=maxLen/\(xs++cq++aS).length=cap*i.size:=by
 have Cg:(match l3 with | .int _=>true | _=>false)=false:=by cases l3<;>first | rfl | exact(mG _ rfl).elim
 have aJ:¬ (n+m<=c):=by omega
 have mH:n+m<=9223372036854775807:=by simp only[maxLen]at b1;exact b1
 have Ch:¬ (9223372036854775807<((n:Int)+(m:Int))):=by omega
 have Ci:¬ (281474976710656<Builtin.nextslicecap (n+m) c*i.bytes):=by have:=growslice_fits (by omega:c<n+m) cd;omega
 have cV:=grownCap_ge w (n+m) c e;have kX:grownCap w (n+m) c e<=maxLen:=grownCap_le_maxLen w (n+m) c e b1;refine⟨grownCap w (n+m) c e,(Builtin.zeroCells z.cells (grownCap w (n+m) c e-(n+m))).toList,?_,cV,kX,?_⟩
 ·simp[Builtin.append_,run_underlying aw,run_underlying hu,sizeOf,typeInfo,zeroValue,hi,a',cu,aJ,Ch,Ci,Question.forced,eZ,hold,newRow,grownCap];congr 2;apply fZ;simp
 ·rw[cL,cL,u2,av,xS,size_zeroCells,uo,<-ke,<-ke];congr 1;omega
end
section
variable{X:cB}{G:GT}{pr:kt}{D:bz}{m m':be}{F:Fr}{ak:a8 ao}{C:dp}{I:aM}{M:List aE}{K:fD}{o:Oper}{v:ao}
def c7.L'{aV:Addr}{vs:List Value}(h:c7 I M aV n vs)(jI:dT I M w)(j:Nat)(v:Value)(ai:vs[j]?=some v):w.cell? (aV.add j)=some v:=by
 obtain⟨cZ,cs,T,ak,e',ag,av⟩:=h;rw[dY _ cZ,sP (e'.heap jI)];rw[<-ag,j']at ai;split at ai
 ·rw[na]at ai;simpa using ai
 ·cases ai
def ad1{x:ao}{k:Nat}{K:List ao->Option R}{r:R}(h:AG G m.t x aB.size K=some r)(ar:tr ut aB x=true)(ab:aH D x u)(hm:cE (dn X G pr) D m I M)(ae:qg x=some k)(ay:k≠0) :
  ∃ l vs,K l=some r/\bx D l vs/\(∀ w',(Builtin.lenOf u).run X.P w'=.ok k w')/\(∀ w,dT I M w->(Builtin.firstCells aB.size k u).run X.P w=.ok vs.toArray w)/\vs.length=k*aB.size /\
   ((∃ a b z e,ut=some ⟨a,b,z,.slice e⟩)\/∃ a b z,ut=some ⟨a,b,z,.string⟩):=by
 have Ma:(∃ a b z e,ut=some ⟨a,b,z,.slice e⟩)\/∃ a b z,ut=some ⟨a,b,z,.string⟩:=by
  unfold tr at ar;split at ar<;>first | exact .inl ⟨_,_,_,_,rfl⟩ | exact .inr ⟨_,_,_,rfl⟩ | cases ar
 cases x<;>simp only[AG]at h<;>first | cases h | skip
 case sn=>simp[qg,tq]at ae;exact(ay ae.symm).elim
 case so=>simp[qg,tq]at ae;exact(ay ae.symm).elim
 case sl id off n c=>
  simp only[qg,tq,jl]at ae;subst ae;obtain⟨a,aY,rfl⟩:=ab.qh;obtain⟨aV,l,vs,aA,bB,av,h⟩:=tv (u:=.pointer (some ⟨a.b,a.o+off,none⟩)) hm (by simp only[aH];exact⟨a,aY,rfl⟩) h;cases aA;have DG:=bB;obtain⟨_,_,_,_,_,_,cu⟩:=DG;exact⟨l,vs,h,av,λ_=>rfl,λw hw=>run_firstCells_some (P:=X.P) w aB.size n _ n c vs cu (λj v ai=>bB.L' hw j v ai),cu,Ma⟩
 case sx id off e n=>
  simp only[qg,tq,jl]at ae;subst ae;obtain⟨a,aY,_,rfl⟩:=ab.sh;obtain⟨aV,l,vs,aA,bB,av,h⟩:=tv (u:=.pointer (some ⟨a.b,a.o+off,none⟩)) hm (by simp only[aH];exact⟨a,aY,rfl⟩) h;cases aA;have DG:=bB;obtain⟨_,_,_,_,_,_,cu⟩:=DG;exact⟨l,vs,h,av,λ_=>rfl,λw hw=>run_firstCells_some (P:=X.P) w aB.size n _ n _ vs cu (λj v ai=>bB.L' hw j v ai),cu,Ma⟩
 case s q=>
  simp only[qg,jl]at ae;subst ae;have ad2:aB.size=1:=by
   unfold tr at ar;split at ar<;>first | exact dr ar | (rename_i e;cases e) | cases ar
  have:=ab.str;subst this;have aK:(⟨q.toArray⟩:ByteArray).size=q.length:=by simp[ByteArray.size]
  refine⟨_,jT ⟨q.toArray⟩,h,T2 q,λw=>?_,λw hw=>?_,by simp[jT,ad2],Ma⟩;·show Result.ok _ _=_;rw[aK]
  ·have:=Pk w aB.size (P:=X.P) ⟨q.toArray⟩;rw[aK]at this;exact this
def Mb(aG:cw X.P X.E)(aj:∀ d,o.dst=some d->d<X.n){s:Operand}{u:Nat}(aC:o.op=.call { callee:=.builtin .append,args:=#[s,x],argTypes:=#[t,u] })
 (aw:X.E t=some ⟨cf,b1,u1,.slice e⟩) (hu:X.E u=some lu) (fh:∀ k,lu.bE≠.int k) (he:X.E e=some aB)
 {c k:Nat} {Mc:Value} (ar:bt F s=.val (.slice c4 n c)) (ab:bt F x=.val Mc) (u2:xs.length=n*aB.size) (oW:cq.length=k*aB.size) (aa:fN cq=true)
  (cu:∀ w',(Builtin.lenOf Mc).run X.P w'=.ok k w') (eZ:∀ w,dT I M w->(Builtin.firstCells aB.size k Mc).run X.P w=.ok cq.toArray w)
  (hold:∀ w,dT I M w->(Builtin.firstCells aB.size n (.slice c4 n c)).run X.P w=.ok xs.toArray w) (b1:n+k<=maxLen) (cd:(n+k)*aB.bytes<=140737488355328)
  (ad3:n+k<=c->∃ g off T arr a5 post,c4=some ⟨g,off,none⟩/\M=a5++⟨g,.cells arr T (0,0)⟩::post/\off+n*aB.size+cq.length<=arr.size /\ K (put o.dst (.val (.slice c4 (n+k) c)) F) C I (a5++⟨g,.cells (bQ arr.toList (off+n*aB.size) cq).toArray T (0,0)⟩::post))
  (ad4:c<n+k->∀ b cap aS,I b=none->(∀ y∈M,y.num≠b)->n+k<=cap->cap<=maxLen->(xs++cq++aS).length=cap*aB.size ->
   K (put o.dst (.val (.slice (some ⟨b,0,none⟩) (n+k) cap)) F) C I (⟨b,.cells (xs++cq++aS).toArray e (0,0)⟩::M)):br X o F C I M K:=by
 refine⟨λa w Q ⟨β,aX⟩=>?_⟩;obtain⟨inf,z,hi,fq,h0,ik,kC⟩:=(aG _ _ he).inf;obtain⟨d,e0,eF⟩:=(aG _ _ hu).eW;obtain⟨ht,lz,nj⟩:=(aG _ _ aw).eW;have rM:ht=.slice e:=by cases ht<;>simp_all[eR]
 subst rM;have uo:z.cells.size=inf.size:=by rw[fq,<-(aG _ _ he).len,<-kC];simp
 have es:=cS aX.ak ar;have ex:=cS aX.ak ab;have mG:∀ k,d≠.int k:=λk cM=>fh k (by rw[<-eF,cM];rfl);rw[<-fq]at u2 oW hold eZ;by_cases ur:n+k<=c
 ·obtain⟨g,off,T,arr,a5,post,rfl,a3,gJ,ae⟩:=ad3 ur;rw[<-fq]at gJ ae;have ax:w.heap[g]?=some (.cells arr T (0,0)):=aX.holds.m ⟨g,.cells arr T (0,0)⟩ (by rw[a3];simp);have eT:=T3 (P:=X.P) (w:=w) t u o.type e inf lz e0 mG hi ax (xA aa) cu (eZ w aX.holds) ur gJ;refine iE (by rw[aC];simp) ?_ ⟨_,_,_,_,⟨β,cg.put (x:=.val (.slice (some ⟨g,off,none⟩) (n+k) c)) (aX.vu a3) aj rfl⟩,ae⟩;unfold execOp;simp only[aC,resolve,invoke,builtin,bV,cH,bN,sV,cc,h3,es,ex,eT]
 ·have jI:dT I M w.drew:=aX.holds.heap rfl;obtain⟨cap,aS,eT,ad,al,aL⟩:=ad0 (P:=X.P) (w:=w) t u o.type e inf z lz e0 mG hi ik uo (hold w.drew jI) u2 oW cu (eZ w.drew jI) (by omega) b1 (by rw[h0];exact cd);have oY:cg X β a w.drew F C I M:=aX.world rfl;rw[fq]at aL;refine iE (by rw[aC];simp) ?_ ⟨_,_,_,_,⟨β,cg.put (x:=.val (.slice (some ⟨w.heap.size,0,none⟩) (n+k) cap)) (oY.nb (.cells (xs++cq++aS).toArray e (0,0))) aj rfl⟩,ad4 (by omega) w.heap.size cap aS aX.holds.pH aX.holds.oD ad al aL⟩;unfold execOp;simp only[aC,resolve,invoke,builtin,bV,cH,bN,sV,cc,h3,es,ex,eT]
def T4{u:Nat}{x:ao}(h:tr (X.E u) aB x=true):∃ lu,X.E u=some lu/\∀ k,lu.bE≠.int k:=by
 unfold tr at h;split at h<;>first | (cases h;done) | (rename_i e;exact⟨_,e,by simp⟩) | (rename_i e _;exact⟨_,e,by simp⟩) | (rename_i e _ _;exact⟨_,e,by simp⟩)
def ad5{s:ao}(h:AI s=true)(ar:aH D s u):∃ a n c,u=.slice a n c/\n<=c:=by
 cases s<;>simp only[AI,jF]at h
 case sn=>exact⟨_,_,_,ar.yP,cI _⟩
 case so=>obtain⟨a,c,rfl⟩:=ar.GZ;exact⟨_,_,_,rfl,dO _⟩
 case sl=>obtain⟨a,_,rfl⟩:=ar.qh;exact⟨_,_,_,rfl,bH h⟩
 case sx=>obtain⟨a,_,bg,rfl⟩:=ar.sh;exact⟨_,_,_,rfl,by omega⟩
def ad6{x:ao}(ar:tr ut aB x=true)(ab:aH D x u)(ae:qg x=some 0):(∃ b c,u=.slice b 0 c)\/u=.string .empty:=by
 cases x<;>simp[qg,tq]at ae
 case sn=>exact .inl ⟨_,_,ab.yP⟩
 case so=>obtain⟨a,c,rfl⟩:=ab.GZ;exact .inl ⟨_,_,rfl⟩
 case sl=>subst ae;obtain⟨a,_,rfl⟩:=ab.qh;exact .inl ⟨_,_,rfl⟩
 case sx=>subst ae;obtain⟨a,_,_,rfl⟩:=ab.sh;exact .inl ⟨_,_,rfl⟩
 case gs=>subst ae;exact .inl ⟨_,_,ab.LK⟩
 case s=>subst ae;exact .inr ab.str
noncomputable abbrev Md(X:cB)(G:GT)(m:be)(s x:ao)(aB:dt)(aT e:Nat):List ao->Option (ao×be):=λl=>bh (some aT) none λk=>bM (Nat.beq k 0) (bM (AI s) (some (s,m)) none) (bM (l.all ao.one) (Dk G m s l k aB.size aB.bytes e) none)
def ad7(aG:cw X.P X.E)(aj:∀ d,o.dst=some d->d<X.n){u:Nat}(aC:o.op=.call { callee:=.builtin .append,args:=#[os,nA],argTypes:=#[t,u] })
 (aw:X.E t=some ⟨cf,b1,u1,.slice e⟩) {s x:ao} (sm:tr (X.E u) aB x=true) (he:X.E e=some aB) (ae:qg x=some 0) {us:Value}
  (es:bt F os=.val us) (gs:aH D s us) (ex:bt F nA=.val kB) (wW:aH D x kB) (h:AG G m.t x aB.size (Md X G m s x aB 0 e)=some (v,m'))
  (hm:cE (dn X G pr) D m I M) (k:pk X G pr D m I M v m' o.dst F C K):br X o F C I M K:=by
 have ad:∃ l,Md X G m s x aB 0 e l=some (v,m'):=by
  cases x<;>simp only[AG]at h<;>first | cases h | exact⟨_,h⟩ | skip
  case sl=>obtain⟨a,aY,rfl⟩:=wW.qh;obtain⟨_,l,_,_,_,_,h⟩:=tv (u:=.pointer (some ⟨a.b,a.o+_,none⟩)) hm (by simp only[aH];exact⟨a,aY,rfl⟩) h;exact⟨l,h⟩
  case sx=>obtain⟨a,aY,_,rfl⟩:=wW.sh;obtain⟨_,l,_,_,_,_,h⟩:=tv (u:=.pointer (some ⟨a.b,a.o+_,none⟩)) hm (by simp only[aH];exact⟨a,aY,rfl⟩) h;exact⟨l,h⟩
 obtain⟨l,ad⟩:=ad;have al:bM (AI s) (some (s,m)) none=some (v,m'):=ad;obtain⟨au,al⟩:=e4 al;cases al;obtain⟨a,n,c,rfl,l4⟩:=ad5 au gs;obtain⟨lu,hu,fh⟩:=T4 sm;exact br.JD aG aC aj aw rfl hu fh he es l4 ex (ad6 sm wW ae) (k D _ M bz.m1 gs hm)
def ad8(aG:cw X.P X.E)(aj:∀ d,o.dst=some d->d<X.n){u:Nat}(aC:o.op=.call { callee:=.builtin .append,args:=#[os,nA],argTypes:=#[t,u] })
 (aw:X.E t=some ⟨cf,b1,u1,.slice e⟩) (hu:X.E u=some lu) (fh:∀ k,lu.bE≠.int k) (he:X.E e=some aB) {us:Value} {id off n c aT:Nat}
  (es:bt F os=.val us) (gs:aH D (.sl id off n c) us) (ex:bt F nA=.val kB) {l:List ao} {vs:List Value} (h:Lo G m id off n c l aT aB.size e=some (v,m')) (mH:n+aT<=maxLen) (iG:(n+aT)*aB.bytes<=140737488355328)
  (av:bx D l vs) (p':vs.length=aT*aB.size) (aa:fN vs=true) (cu:∀ w',(Builtin.lenOf kB).run X.P w'=.ok aT w') (eZ:∀ w,dT I M w->(Builtin.firstCells aB.size aT kB).run X.P w=.ok vs.toArray w)
  (hm:cE (dn X G pr) D m I M) (k:pk X G pr D m I M v m' o.dst F C K):br X o F C I M K:=by
 have DH:∀ {q:List Value} {c:Nat},q.length=c*aB.size->∀ i,(dn X G pr).E e=some i->q.length=c*i.size:=λaK i hi=>by have:X.E e=some i:=hi;rw[he]at this;cases this;exact aK
 obtain⟨a,aY,rfl⟩:=gs.qh;unfold Lo at h;by_cases af:n+aT<=c
 ·have ah:Nat.ble (Nat.add n aT) c=true:=Av af;rw[ah]at h;have bq:uW m (.p id (Nat.add off (Nat.mul n aB.size))) l (λm=>some (ao.sl id off (Nat.add n aT) c,m))=some (v,m'):=h;obtain⟨m2,ad,-,-,al⟩:=L3 (Y:=dn X G pr) bq;cases ad;obtain⟨g,EY,a5,post,arr,T,aA,a3,gJ,pJ,⟨hD,cM,gi,iT,z6,ax⟩,kI⟩:=al hm (u:=.pointer (some ⟨a.b,a.o+(off+n*aB.size),none⟩)) (by simp only[aH];exact⟨a,aY,rfl⟩) av;cases aA;refine⟨λac w Q ⟨β,aX⟩=>?_⟩;obtain⟨inf,z,hi,fq,h0,ik,kC⟩:=(aG _ _ he).inf;obtain⟨d,e0,eF⟩:=(aG _ _ hu).eW;obtain⟨ht,lz,nj⟩:=(aG _ _ aw).eW;have rM:ht=.slice e:=by cases ht<;>simp_all[eR]
  subst rM;have ax:w.heap[a.b]?=some (.cells arr T (0,0)):=aX.holds.m ⟨a.b,.cells arr T (0,0)⟩ (by rw[a3];simp);have sk:=cS aX.ak es;have yW:=cS aX.ak ex;rw[<-fq]at eZ;have eT:=T3 (P:=X.P) (w:=w) t u o.type e inf lz e0 (λk cM=>fh k (by rw[<-eF,cM];rfl)) hi ax (xA aa) cu (eZ w aX.holds) af (off:=a.o+off) (by rw[fq];omega);rw[fq,qs]at eT;have oY:=aX.vu (cs':=(bQ arr.toList (a.o+(off+n*aB.size)) vs).toArray) a3;refine iE (by rw[aC];simp) ?_ ⟨_,_,_,_,⟨β,cg.put (x:=.val (.slice (some ⟨a.b,a.o+off,none⟩) (n+aT) c)) oY aj rfl⟩,?_⟩;·unfold execOp;simp only[aC,resolve,invoke,builtin,bV,cH,bN,sV,cc,h3,sk,yW,eT]
  ·exact k D _ _ bz.m1 (by simp only[aH];exact⟨a,aY,rfl⟩) kI
 ·have ah:Nat.ble (Nat.add n aT) c=false:=by
   cases ah:Nat.ble (Nat.add n aT) c with
   |false=>rfl| true=>exact absurd (bH ah) af
  rw[ah]at h;have bq:q' G m.t (.p id off) (Nat.mul n aB.size) (λdA=>sf m (dA++l) e λid m=>some (ao.sx id 0 0 (Nat.add n aT),m))=some (v,m'):=h;obtain⟨aV,dA,xs,aA,bB,dG,ad⟩:=tv (u:=.pointer (some ⟨a.b,a.o+off,none⟩)) hm (by simp only[aH];exact⟨a,aY,rfl⟩) bq;cases aA;obtain⟨m2,cr,aJ,eM⟩:=LZ (Y:=dn X G pr) ad;cases cr;have DG:=bB;obtain⟨_,_,_,_,_,_,l5⟩:=DG;refine Mb aG aj aC aw hu fh he es ex l5 p' aa cu eZ (λw hw=>run_firstCells_some (P:=X.P) w aB.size n _ n c xs l5 (λj v ai=>bB.L' hw j v ai)) mH iG (λgw=>(af gw).elim) λ_ b cap aS bC az DI DJ wX=>?_;refine k _ _ _ bz.AX ?_ (eM aS hm az (dG.append av) (DH wX) DJ);simp only[aH];exact⟨_,bz.nD _ _ _,by simpa using DI,by simp⟩
def ad9(aG:cw X.P X.E)(aj:∀ d,o.dst=some d->d<X.n){u:Nat}(aC:o.op=.call { callee:=.builtin .append,args:=#[os,nA],argTypes:=#[t,u] })
 (aw:X.E t=some ⟨cf,b1,u1,.slice e⟩) (hu:X.E u=some lu) (fh:∀ k,lu.bE≠.int k) (he:X.E e=some aB) {us:Value} {id n eV aT:Nat}
  (es:bt F os=.val us) (gs:aH D (.sx id 0 0 n) us) (ex:bt F nA=.val kB) (ax:m.t.get id=some (.cells cs e eV)) {l:List ao} {vs:List Value} (h:Lp m id n cs eV l aT aB.size e=some (v,m')) (mH:n+aT<=maxLen) (iG:(n+aT)*aB.bytes<=140737488355328)
  (av:bx D l vs) (p':vs.length=aT*aB.size) (aa:fN vs=true) (cu:∀ w',(Builtin.lenOf kB).run X.P w'=.ok aT w') (eZ:∀ w,dT I M w->(Builtin.firstCells aB.size aT kB).run X.P w=.ok vs.toArray w)
  (hm:cE (dn X G pr) D m I M) (k:pk X G pr D m I M v m' o.dst F C K):br X o F C I M K:=by
 obtain⟨a,aY,bg,rfl⟩:=gs.sh;have nM:=hm.hC _ _ _ ax aY;obtain⟨arr,u3,a3,cx,au,ae,hl⟩:=nM;unfold Lp at h;obtain⟨wS,h⟩:=e4 h;have T5:n*aB.size<=eV:=bH wS;obtain⟨t1,ad,al⟩:=a8.mX (none:Option eA) m.t id;rw[ad]at h;obtain⟨cs',aL,bG⟩:=a8.uY l cs (Nat.mul n aB.size);have bq:a8.uS l cs (Nat.mul n aB.size) (λcs=>yJ (⟨t1,m.n⟩:be) (.cells cs e (Nat.mul (Nat.add n aT) aB.size)) λid m=>some (ao.sx id 0 0 (Nat.add n aT),m))=some (v,m'):=h;rw[aL]at bq;obtain⟨t2,cr,eM⟩:=DC bq;cases eM;have jc:∀ i en,t1.get i=some en->i≠id/\m.t.get i=some en:=λi en hi=>by
  rcases al i en hi with⟨_,fo⟩ | fo;·cases fo
  ·exact fo
 have T6:cE (dn X G pr) D ⟨t1,m.n⟩ I M:=⟨λi en b hi=>hm.hC i en b (jc i en hi).2,λi fK en wY b ij hi ct=>hm.inj i fK en wY b ij (jc i en hi).2 (jc fK wY ct).2,hm.iy,hm.oj⟩;have T7:arr.size=a.c*aB.size:=by have:=ae aB he;rw[u3,c9]at this;exact this
 have GY:=av.len;have u2:((arr.toList.take (n*aB.size)).length=n*aB.size):=by rw[fu,xS];omega
 have Km:∀ j,j<n*aB.size->∀ v,cs.get j=some v->∃ x,(arr.toList.take (n*aB.size))[j]?=some x/\aH D v x:=λj ai v ag=>by obtain⟨x,a1,ba⟩:=au j v (by omega) ag;rw[u3,c9]at a1;exact⟨x,by rw[j',ck ai];simpa using a1,ba⟩
 have T8:∀ (bk:bz) (M':List aE) (b ew:Nat) (bc:List Value),D.le bk->(⟨b,.cells (arr.toList.take (n*aB.size)++vs++bc).toArray e (0,0)⟩:aE)∈M'->(arr.toList.take (n*aB.size)++vs++bc).length=ew*aB.size->ew<=maxLen ->
   j5 bk X.E M' ⟨b,0,ew⟩ (.cells cs' e (Nat.mul (Nat.add n aT) aB.size)):=by
  intro bk M' b ew bc c3 yX aea aeb;have hmul:(n+aT)*aB.size=n*aB.size+aT*aB.size:=ke _ _ _;refine .cells _ rfl yX ?_ (λi v hi DE=>?_) (λi hi=>?_) aeb;·show 0+(n+aT)*aB.size<=_;rw[rE,cL,cL,u2,p'];omega
  ·have ct:i<n*aB.size+aT*aB.size:=by have:i<(n+aT)*aB.size:=hi;omega
   simp only[c9,xR];rcases bG i v DE with⟨a1,ba⟩ | ⟨a1,ba⟩;·have Ha:n*aB.size<=i:=a1;obtain⟨x,b4,gx⟩:=av.get (i:=i-n*aB.size) ba;refine⟨x,?_,gx.mono c3⟩;rw[fi,jW (by omega),u2,oL (by omega)];exact b4
   ·have Ha:i<n*aB.size:=by
     rcases a1 with a1 | a1;·exact a1
     ·have:n*aB.size+l.length<=i:=a1;omega
    obtain⟨x,b4,gx⟩:=Km i Ha v ba;refine⟨x,?_,gx.mono c3⟩;rw[fi,oL (by omega)];exact b4
  ·rw[he]at hi;cases hi;simpa using aea
 refine Mb aG aj aC aw hu fh he es ex u2 p' aa cu eZ (λw hw=>?_) mH iG (λaf=>?_) λ_ b cap aS bC az DI DJ wX=>?_
 ·refine run_firstCells_some (P:=X.P) w aB.size n _ n _ _ u2 λj v ai=>?_;rw[dY _ rfl,sP (hw.m _ a3)];rw[j']at ai;split at ai
  ·rw[u3];simpa using ai
  ·cases ai
 ·
  obtain⟨a5,post,cZ⟩:=sc a3;rw[F2]at af;have gJ:a.o+0+n*aB.size+vs.length<=arr.size:=by have fj:=mq aB.size af;rw[ke]at fj;rw[u3,T7,p'];omega
  refine⟨a.b,a.o+0,e,arr,a5,post,rfl,cZ,gJ,?_⟩;have T9:bQ arr.toList (a.o+0+n*aB.size) vs=arr.toList.take (n*aB.size)++vs++arr.toList.drop (n*aB.size+vs.length):=by rw[u3];simp only[bQ,c9]
  rw[T9];have ly:∀ q∈M,q.num≠a.b->q∈a5++(⟨a.b,.cells (arr.toList.take (n*aB.size)++vs++arr.toList.drop (n*aB.size+vs.length)).toArray e (0,0)⟩:aE)::post:=λq aK aJ=>by
   rw[cZ]at aK;rcases cO.1 aK with aK | aK;·exact cO.2 (.inl aK)
   ·rcases dW.1 aK with rfl | aK
    ·exact(aJ rfl).elim
    ·exact cO.2 (.inr (lO _ aK))
  have DK:∀ i en b,t1.get i=some en->D i=some b->b.b≠a.b:=λi en b hi ah yY=>(jc i en hi).1 (hm.inj _ _ _ _ _ _ (jc i en hi).2 ax ah aY yY);refine k _ _ _ bz.AX ?_ (T6.step (m:=⟨t1,m.n⟩) (j:=m.n) (λi en hi=>(cr i en hi).imp (λq=>⟨q.1,mZ q.2⟩) λq=>q) (D.nD _ ⟨a.b,0,a.c⟩) (bz.wQ _ hm.fresh) (λi hi=>by unfold bz.set;rw[ca hi]) (λi b ah=>?_) (λ_ _ h=>h) (λi en b bs hi ah q aK aJ=>ly q aK (by rw[aJ];exact DK i en b hi ah)) (T8 _ _ _ _ (arr.toList.drop (n*aB.size+vs.length)) (bz.wQ _ hm.fresh) (by simp) ?_ hl) λi en b bs hi ah=>DK i en b hi ah);·simp only[aH];exact⟨_,bz.nD _ _ _,by simpa using af,by rw[u3];rfl⟩
  ·unfold bz.set at ah;split at ah
   ·show i<m.n+1;omega
   ·have:=hm.iy _ _ ah;show i<m.n+1;omega
  ·rw[<-T9,L2 (by simpa using gJ)];simpa using T7
 ·
  refine k _ _ _ bz.AX ?_ (T6.new (m:=⟨t1,m.n⟩) (a:=⟨b,0,cap⟩) cr az (T8 _ _ _ _ _ (bz.wQ _ hm.fresh) (by simp) wX DJ));simp only[aH];exact⟨_,bz.nD _ _ _,by simpa using DI,by simp⟩
def aec(aG:cw X.P X.E)(aj:∀ d,o.dst=some d->d<X.n){u:Nat}(aC:o.op=.call { callee:=.builtin .append,args:=#[os,nA],argTypes:=#[t,u] })
 (aw:X.E t=some ⟨cf,b1,u1,.slice e⟩) {s x:ao} (sm:tr (X.E u) aB x=true) (he:X.E e=some aB) {aT:Nat} (ae:qg x=some aT) (ay:aT≠0) {us:Value}
  (es:bt F os=.val us) (gs:aH D s us) (ex:bt F nA=.val kB) (wW:aH D x kB) (h:AG G m.t x aB.size (Md X G m s x aB aT e)=some (v,m'))
  (hm:cE (dn X G pr) D m I M) (k:pk X G pr D m I M v m' o.dst F C K):br X o F C I M K:=by
 obtain⟨l,vs,ad,av,cu,eZ,p',_⟩:=ad1 (ut:=X.E u) h sm wW hm ae ay;have al:bM (Nat.beq aT 0) (bM (AI s) (some (s,m)) none) (bM (l.all ao.one) (Dk G m s l aT aB.size aB.bytes e) none)=some (v,m'):=ad;rw[g0 ay]at al;have aL:bM (l.all ao.one) (Dk G m s l aT aB.size aB.bytes e) none=some (v,m'):=al;obtain⟨pJ,aL⟩:=e4 aL;have aa:=av.one pJ;obtain⟨lu,hu,fh⟩:=T4 sm;have DH:∀ {q:List Value} {c:Nat},q.length=c*aB.size->∀ i,(dn X G pr).E e=some i->q.length=c*i.size:=λaK i hi=>by have:X.E e=some i:=hi;rw[he]at this;cases this;exact aK
 cases s<;>simp only[Dk]at aL<;>first | cases aL | skip
 case sn=>
  obtain⟨ah,bG⟩:=e4 aL;rw[b']at ah;obtain⟨m2,cr,aJ,eM⟩:=LZ (Y:=dn X G pr) bG;cases cr;have kK:=gs.yP;subst kK;have mH:0+aT<=maxLen:=by rw[c9];exact bH ah.2
  have iG:(0+aT)*aB.bytes<=140737488355328:=by rw[c9];exact bH ah.1
  refine Mb aG aj aC aw hu fh he (n:=0) (c:=0) (xs:=[]) es ex (by simp) p' aa cu eZ (λw _=>by simp[run_firstCells_none]) mH iG (λaf=>by omega) λ_ b cap aS bC az DI DJ wX=>?_;refine k _ _ _ bz.AX ?_ (eM aS hm az av (DH wX) DJ);simp only[aH];exact⟨_,bz.nD _ _ _,by simpa using DI,by simp⟩
 case sl=>
  obtain⟨ah,bG⟩:=e4 aL;rw[b']at ah;exact ad8 aG aj aC aw hu fh he es gs ex bG (bH ah.2) (bH ah.1) av p' aa cu eZ hm k
 case sx=>
  split at aL;·rename_i ax;obtain⟨ah,bG⟩:=e4 aL;simp only[b']at ah;obtain⟨⟨hH,ha⟩,p1,Gc,Gd⟩:=ah;have d1:=dr hH;have d2:=dr ha;have d3:=dr p1;subst d1;subst d2;subst d3;exact ad9 aG aj aC aw hu fh he es gs ex ax bG (bH Gd) (bH Gc) av p' aa cu eZ hm k
  ·cases aL
def aed(aG:cw X.P X.E)(aj:∀ d,o.dst=some d->d<X.n){args:Array Operand}(aC:o.op=.call { callee:=.builtin .append,args:=args,argTypes:=eX })(h:Lr (dn X G pr) m eX.toList (mb ak args.toList)=some (v,m'))
  (H:hT D F ak args.toList) (hm:cE (dn X G pr) D m I M) (k:pk X G pr D m I M v m' o.dst F C K):br X o F C I M K:=by
 unfold Lr at h;split at h
 ·rename_i t u s x aw av;split at h
  ·rename_i sa qi sz e mE;obtain⟨aB,he,h⟩:=bW h;obtain⟨sm,h⟩:=e4 h;obtain⟨os,nA,k1,fc,yS⟩:=G' av;obtain⟨us,es,gs⟩:=H.bt (x:=os) (by rw[k1];simp) fc;obtain⟨kB,ex,wW⟩:=H.bt (x:=nA) (by rw[k1];simp) yS;have yT:args=#[os,nA]:=by apply fZ;simpa using k1
   have yU:eX=#[t,u]:=by apply fZ;simpa using aw
   have oV:o.op=.call { callee:=.builtin .append,args:=#[os,nA],argTypes:=#[t,u] }:=by rw[aC,yT,yU]
   cases ae:qg x with
   |none=>
    exfalso;unfold tr at sm;split at sm<;>first | (cases sm;done) | (simp[qg,tq]at ae;done)
   |some aT=>
    rw[ae]at h;by_cases ay:aT=0;·subst ay;exact ad7 aG aj oV mE sm he ae es gs ex wW h hm k
    ·exact aec aG aj oV mE sm he ae ay es gs ex wW h hm k
  ·cases h
 ·cases h
end
section
variable{X:cB}{β:Nat->Nat}{F:Fr}{C:dp}{I:aM}{M:List aE}{o:Oper}{K:fD}
def Me(aG:cw P E)(aw:E t=some c8)(dQ:c8.bE=.slice e):P.underlying t=some (.slice e):=by
 obtain⟨ht,lz,nj⟩:=(aG _ _ aw).eW;have rM:ht=.slice e:=by rw[dQ]at nj;cases ht<;>simp_all[eR]
 rw[lz,rM]
def ft.Mf(aG:cw P E){y:Operand}(aw:E t=some c8)(dQ:c8.bE=.slice e){c c':Nat}{V:Value->Prop}{other:Prop}
  (h:V (.bool a.isNone)):ft P .eql t x y (.val (.slice a n c)) (.val (.slice none hB c')) V other:=by
 have aa:=Me aG aw dQ;refine .mk _ _ _ rfl rfl (λw=>?_) h;have aA:(eqGuard .eql t x y (.slice a n c) (.slice none hB c')).run P w=.ok () w:=by unfold eqGuard;rfl
 simp only[bV,aA,bN];exact Lib.run_eql_slice_nil w t e a n c hB c' aa
def br.slice3(aG:cw X.P X.E)(aC:o.op=.slice t x (some lo) (some hi) (some mx))(aj:∀ d,o.dst=some d->d<X.n)
 (aw:X.E t=some c8) (dQ:c8.bE=.slice e) (he:X.E e=some aB) {aV:Option Addr} {c:Nat} (l h m:Nat) {dS:IntKind}
  (ab:bt F x=.val (.slice aV n c)) (dG:bt F lo=.val (.int dS (l:Nat))) (fO:bt F hi=.val (.int ch (h:Nat))) (hl:bt F mx=.val (.int gI (m:Nat)))
  (aa:l<=h) (ad:h<=m) (al:m<=c) (k:K (put o.dst (.val (.slice (if m=l then aV else aV.map (·.add (l*aB.size))) (h-l) (m-l))) F) C I M):br X o F C I M K:=by
 refine⟨λa w Q ⟨β,aX⟩=>?_⟩;have hu:=Me aG aw dQ;refine iE (by rw[aC];simp) (v:=.slice (if m=l then aV else aV.map (·.add (l*aB.size))) (h-l) (m-l)) (w':=w) ?_ ⟨_,_,_,_,⟨β,cg.put (x:=.val (.slice (if m=l then aV else aV.map (·.add (l*aB.size))) (h-l) (m-l))) aX aj rfl⟩,k⟩;have ex:=cS aX.ak ab;have aA:=cS aX.ak dG;have a0:=cS aX.ak fO;have bY:=cS aX.ak hl;simp only[execOp,aC,Instr.sliceAt,Instr.slice,Instr.sliceBounds,Instr.sliceBound,ex,bV,run_underlying hu,bN,(aG _ _ he).run_sizeOf,cH,ka,rr,aA,a0,bY,mA];rw[ck ⟨by omega,by omega⟩];simp only[cH,bN,kx];rw[ck ⟨by omega,by omega⟩];simp only[cH,bN,kx];rw[ck ⟨by omega,by omega⟩];simp
end
section
variable{X:cB}{G:GT}{pr:kt}{D:bz}{m m':be}{F:Fr}{ak:a8 ao}{C:dp}{I:aM}{M:List aE}{K:fD}{o:Oper}{v:ao}
def aee(aG:cw X.P X.E)(aj:∀ d,o.dst=some d->d<X.n){args:Array Operand}(aC:o.op=.call { callee:=.builtin .unsafeString,args:=args,argTypes:=eX })(h:Lt (dn X G pr) m eX.toList (mb ak args.toList)=some (v,m'))
  (H:hT D F ak args.toList) (hm:cE (dn X G pr) D m I M) (k:pk X G pr D m I M v m' o.dst F C K):br X o F C I M K:=by
 unfold Lt at h;split at h
 ·rename_i rH it aw av;cases h;obtain⟨op,on,k1,aa,ad⟩:=G' av;obtain⟨sj,aA,a1⟩:=H.bt (x:=op) (by rw[k1];simp) aa;obtain⟨pj,a0,ba⟩:=H.bt (x:=on) (by rw[k1];simp) ad;have yT:args=#[op,on]:=by apply fZ;simpa using k1
  have yU:eX=#[rH,it]:=by apply fZ;simpa using aw
  have Ha:sj=.pointer none:=by simpa only[aH]using a1
  subst Ha;rw[ba.int]at a0;refine br.P2 (by rw[aC,yT,yU]) aj aA a0 (k D _ M bz.m1 ?_ hm);simp only[aH];rfl
 ·rename_i rH it id n aw av;split at h
  ·rename_i sa qi sz e cs T eV aef ax;obtain⟨aB,he,eM⟩:=bW h;obtain⟨ah,fo⟩:=e4 eM;simp only[b']at ah;obtain⟨op,on,k1,aa,ad⟩:=G' av;obtain⟨sj,aA,a1⟩:=H.bt (x:=op) (by rw[k1];simp) aa;obtain⟨pj,a0,ba⟩:=H.bt (x:=on) (by rw[k1];simp) ad;have yT:args=#[op,on]:=by apply fZ;simpa using k1
   have yU:eX=#[rH,it]:=by apply fZ;simpa using aw
   rw[ba.int]at a0;obtain⟨a,aY,rfl⟩:=a1.ptr;have nM:=hm.hC _ _ _ ax aY;obtain⟨arr,u3,a3,cx,au,ae,hl⟩:=nM;have DH:=dr ah.2.1;subst DH;unfold q' at fo;simp only[ax]at fo;cases Mg:Nat.ble (Nat.add 0 n) eV with
   |false=>rw[Mg]at fo;cases fo| true=>
   rw[Mg]at fo;simp only[bZ]at fo;have oW:0+n<=eV:=bH Mg;obtain⟨l,hH,ha,fj⟩:=a8.AO cs n 0 _ _ fo;obtain⟨b8,Cr,rP⟩:=bW fj;obtain⟨Jk,T'⟩:=e4 rP;obtain⟨t1,aL,bG⟩:=a8.mX (none:Option eA) m.t id;rw[aL]at T';cases T';have wa:(arr.toList.take n).length=n:=by rw[fu,xS];omega
   have AZ:bx D l (arr.toList.take n):=bx.LJ (by rw[wa,hH]) λi v hi=>by
    have dy:i<n:=by rw[<-hH];exact(ih.1 hi).1
    obtain⟨x,b4,gx⟩:=au i v (by omega) (by have:=ha i dy;rw[c9]at this;rw[this,hi]);rw[u3,c9]at b4;exact⟨x,by rw[j',ck dy];simpa using b4,gx⟩
   have hr:=L4 Cr AZ;have l2:b8.length=n:=by have:=congrArg List.length hr;rw[wa]at this;simpa using this.symm
   obtain⟨a5,post,cZ⟩:=sc a3;have kJ:M.Perm (⟨a.b,.cells arr T (0,0)⟩::(a5++post)):=by rw[cZ];exact nu
   have lq:arr.toList.take b8.length=b8.map λb=>Value.int .u8 b.toNat:=by rw[l2];exact hr
   have ay:b8≠[]:=λcM=>by subst cM;have:0<n:=bH ah.2.2;simp at l2;omega
   have dD:bt F op=.val (.pointer (some ⟨a.b,0,none⟩)):=by rw[aA,u3]
   have oG:bt F on=.val (.int .i64 b8.length):=by rw[a0,l2];rfl
   refine br.Jj aG (by rw[aC,yT,yU]) aj aef rfl he (dr ah.1) dD oG ay (by rw[l2];exact bH Jk) kJ lq ?_;have jc:∀ i en,t1.get i=some en->i≠id/\m.t.get i=some en:=λi en hi=>by
    rcases bG i en hi with⟨_,fo⟩ | fo;·cases fo
    ·exact fo
   refine k D _ _ bz.m1 (by simp only[aH]) ⟨λi en b hi mH=>?_,λi fK en wY b ij hi ct=>hm.inj i fK en wY b ij (jc i en hi).2 (jc fK wY ct).2,hm.iy,hm.oj⟩;refine(hm.hC i en b (jc i en hi).2 mH).mono (bz.le_refl D) λq aK aJ=>?_;rcases dW.1 (kJ.mem_iff.1 aK)with rfl | aK;·exact((jc i en hi).1 (hm.inj _ _ _ _ _ _ (jc i en hi).2 ax mH aY aJ.symm)).elim
   ·exact aK
  ·cases h
 ·cases h
def aeg(aG:cw X.P X.E)(aj:∀ d,o.dst=some d->d<X.n){v:ao}(aC:o.op=.slice t x (some lo) (some hi) (some mx))(h:Ll X.E t (cQ ak x) (cQ ak lo) (cQ ak hi) (cQ ak mx)=some v)
  (H:hT D F ak o.op.operands.toList) (hm:cE (dn X G pr) D m I M) (k:∀ x,fm D x v->K (put o.dst x F) C I M):br X o F C I M K:=by
 unfold Ll at h;split at h
 ·rename_i sz gS z e id off n c dS l ch bq gI fg aw ab dG fO hl;obtain⟨aB,he,eM⟩:=bW h;obtain⟨ah,fo⟩:=e4 eM;simp only[b']at ah;obtain⟨b1,cd,fF,l'⟩:=ah;cases fo;have b1:=bH b1;have cd:=bH cd;have fF:=bH fF;have l':l+1<=fg:=bH l';obtain⟨Kp,c1,wZ⟩:=H.bt (x:=x) (by rw[aC];simp[Op.operands]) ab;obtain⟨sj,aA,a1⟩:=H.bt (x:=lo) (by rw[aC];simp[Op.operands]) dG;obtain⟨pj,a0,ba⟩:=H.bt (x:=hi) (by rw[aC];simp[Op.operands]) fO;obtain⟨wV,bY,b4⟩:=H.bt (x:=mx) (by rw[aC];simp[Op.operands]) hl;rw[a1.int]at aA;rw[ba.int]at a0;rw[b4.int]at bY;simp only[aH]at wZ;obtain⟨a,aY,rfl⟩:=wZ;refine br.slice3 aG aC aj aw rfl he l bq fg c1 aA a0 bY b1 cd fF (k _ (.val ?_));simp only[aH];refine⟨a,aY,?_⟩;rw[ca (by omega),ka,dY _ rfl];simp only[wE,Aw,Ax,qs]
 ·cases h
def Ua{sz gS:Nat}{z:List Value}{n c h m:Nat}(aC:o.op=.slice t x none (some hi) (some mx))(aw:X.E t=some ⟨sz,gS,z,.slice e⟩)(he:X.E e=some aB)
  (ab:bt F x=.val (.slice a n c)) (cK:bt F hi=.val (.int ch (h:Nat))) (hm:bt F mx=.val (.int gI (m:Nat))) (aa:h<=m) (ad:m<=c) (k:K (put o.dst (.val (.slice (if m=0 then a else a.map (·.add (0*aB.size))) (h-0) (m-0))) F) C I M):fP X o F C I M K:=by
 obtain⟨dst,yZ,ty,pos,after,guard⟩:=o;simp only at aC;subst aC;have aA:cY (cR F) x=.val (.slice a n c):=ab;have a0:cY (cR F) hi=.val (.int ch (h:Nat)):=cK;have bY:cY (cR F) mx=.val (.int gI (m:Nat)):=hm;simp only[fP,b5,aw,he,aA,a0,bY,rr,ka];exact⟨h,m,rfl,rfl,aa,ad,k⟩
def aeh(aG:cw X.P X.E)(aj:∀ d,o.dst=some d->d<X.n){v:ao}(aC:o.op=.slice t x none (some hi) (some mx))(h:Lk X.E t (cQ ak x) (cQ ak hi) (cQ ak mx)=some v)
  (H:hT D F ak o.op.operands.toList) (hm:cE (dn X G pr) D m I M) (k:∀ x,fm D x v->K (put o.dst x F) C I M):fP X o F C I M K:=by
 unfold Lk at h;split at h
 ·rename_i sz gS z e id off n c ch bq gI fg aw ab fO hl;obtain⟨aB,he,eM⟩:=bW h;obtain⟨ah,fo⟩:=e4 eM;simp only[b']at ah;obtain⟨cd,fF,l'⟩:=ah;cases fo;have cd:=bH cd;have fF:=bH fF;have l':0+1<=fg:=bH l';obtain⟨Kp,c1,wZ⟩:=H.bt (x:=x) (by rw[aC];simp[Op.operands]) ab;obtain⟨pj,a0,ba⟩:=H.bt (x:=hi) (by rw[aC];simp[Op.operands]) fO;obtain⟨wV,bY,b4⟩:=H.bt (x:=mx) (by rw[aC];simp[Op.operands]) hl;rw[ba.int]at a0;rw[b4.int]at bY;simp only[aH]at wZ;obtain⟨a,aY,rfl⟩:=wZ;refine Ua aC aw he c1 a0 bY cd fF (k _ (.val ?_));simp only[aH];refine⟨a,aY,?_⟩;rw[ca (by omega),ka,dY _ rfl];simp
 ·rename_i sz gS z e id off a0 n ch bq gI fg aw ab fO hl;obtain⟨aB,he,eM⟩:=bW h;obtain⟨ah,fo⟩:=e4 eM;simp only[b']at ah;obtain⟨cd,fF,l'⟩:=ah;cases fo;have cd:=bH cd;have fF:=bH fF;have l':0+1<=fg:=bH l';obtain⟨Kp,c1,wZ⟩:=H.bt (x:=x) (by rw[aC];simp[Op.operands]) ab;obtain⟨pj,a0,ba⟩:=H.bt (x:=hi) (by rw[aC];simp[Op.operands]) fO;obtain⟨wV,bY,b4⟩:=H.bt (x:=mx) (by rw[aC];simp[Op.operands]) hl;rw[ba.int]at a0;rw[b4.int]at bY;simp only[aH]at wZ;obtain⟨a,aY,bg,rfl⟩:=wZ;refine Ua aC aw he c1 a0 bY cd (by omega) (k _ (.val ?_));simp only[aH];refine⟨a,aY,?_⟩;rw[ca (by omega),ka,dY _ rfl];simp
 ·cases h
def aei(aj:∀ d,o.dst=some d->d<X.n){v:ao}(aC:o.op=.unOp .xor t x)(h:Lm (cQ ak x)=some v)(H:hT D F ak o.op.operands.toList)(k:∀ x,fm D x v->K (put o.dst x F) C I M):fP X o F C I M K:=by
 unfold Lm at h;split at h
 ·rename_i n ab;cases h;obtain⟨u,e,hu⟩:=H.bt (x:=x) (by rw[aC];simp[Op.operands]) ab;rw[hu.int]at e;have q:br X o F C I M K:=br.Cq aC aj e (k _ (.val (by simp only[aH])));obtain⟨dst,yZ,ty,pos,after,guard⟩:=o;simp only at aC;subst aC;exact q
 ·cases h
def aej(aC:o.op=.slice t x (some lo) (some hi) (some mx))(k:br X o F C I M K):fP X o F C I M K:=by
 obtain⟨dst,yZ,ty,pos,after,guard⟩:=o;simp only at aC;subst aC;simp only[fP,b5];split
 ·rename_i e;cases e
 ·rename_i e;cases e
 ·split
  ·rename_i e _;cases e
  ·exact k
 ·exact k
def Ub:Op->Bool
 | .makeMap .. | .lookup .. | .mapUpdate .. | .insert ..=>true| .call { callee:=.builtin .append,.. }=>true| .call { callee:=.builtin .copy,.. }=>true| .call { callee:=.builtin .unsafeString,.. }=>true| _=>false
def w0(aC:o.op=op)(h:Ub op=true)(k:br X o F C I M K):fP X o F C I M K:=by
 obtain⟨dst,yZ,ty,pos,after,guard⟩:=o;simp only at aC;subst aC;unfold Ub at h;split at h<;>first | exact k | cases h
def aek(aG:cw X.P X.E)(aj:∀ d,o.dst=some d->d<X.n)(h:Lu (dn X G pr) m o ak=some (v,m'))(H:hT D F ak o.op.operands.toList)(hm:cE (dn X G pr) D m I M)(k:pk X G pr D m I M v m' o.dst F C K):fP X o F C I M K:=by
 unfold Lu at h;split at h
 ·rename_i t x y aC;exact adR aC h H hm k
 ·rename_i t aC;exact w0 aC rfl (TY aG aj aC h (by simp) hm k)
 ·rename_i t x aC;split at h
  ·rename_i fg n ab;refine w0 aC rfl (TY aG aj aC h (λy aD=>?_) hm k);cases aD;obtain⟨u,aA,a1⟩:=H.bt (x:=x) (by rw[aC];simp[Op.operands]) ab;rw[a1.int]at aA;exact⟨_,_,aA⟩
  ·cases h
 ·rename_i t x y ok aC;exact w0 aC rfl (adT aG aj aC h H hm k)
 ·rename_i t x y z aC;exact w0 aC rfl (T0 aG (.inl aC) h H hm k)
 ·rename_i t x y z aC;exact w0 aC rfl (T0 aG (.inr aC) h H hm k)
 ·rename_i s d x aC;have Hb:=adV aG aj aC h H hm k;obtain⟨dst,yZ,ty,pos,after,guard⟩:=o;simp only at aC;subst aC;have p3:∃ a b z,X.E d=some ⟨a,b,z,.string⟩:=by
   unfold GO at h;split at h;·exact⟨_,_,_,by assumption⟩
   ·exact⟨_,_,_,by assumption⟩
   ·exact⟨_,_,_,by assumption⟩
   ·cases h
  obtain⟨a,b,z,p3⟩:=p3;simp only[fP,b5,p3];split;·rename_i e _;cases e
  ·exact Hb
 ·rename_i b args eX aC;have Mh:hT D F ak args.toList:=by rw[aC]at H;simpa[Op.operands,Call.operands]using H
  unfold Ta at h;split at h;·exact w0 aC rfl (aed aG aj aC h Mh hm k)
  ·exact w0 aC rfl (adW aG aj aC h Mh hm k)
  ·exact w0 aC rfl (aee aG aj aC h Mh hm k)
  ·cases h
 ·cases h
end
def DL(Y:fJ)(call:ao->List ao->be->Option (ao×be)):Prop:=∀ f l m v m',call f l m=some (v,m')->∀ (D:bz) (I:aM) (M:List aE) (u:Value) (us:List Value),aH D f u->bx D l us->cE Y D m I M -> (∃ g cb cs,u=.func (.func g) cb cs/\Spec Y.P g (cb.toList++us++cs.toList) I M λr I' M'=>∃ bk,D.ext bk m.n/\aH bk v r/\cE Y bk m' I' M') \/ ∃ q,u=.func (.yield q) #[] #[]/\zJ Y.P q us I M λr I' M'=>∃ bk,D.ext bk m.n/\aH bk v r/\cE Y bk m' I' M'
def sp(dst:Option Nat)(v:ao)(D:bz)(F F':Fr):Prop:=(∀ d,dst=some d->fm D (F' d) v)/\∀ (D:bz) t si,dst≠some t->fm D (F t) si->fm D (F' t) si
def sp.put{v:ao}{x:dd}(F:Fr)(h:fm D x v):sp dst v D F (put dst x F):=by
 constructor
 ·rintro d rfl;simpa[Go.V.put,fM]using h
 ·intro D t si bs h;cases dst with
  |none=>exact h| some d=>have:t≠d:=λe=>bs (by rw[e]);simp only[Go.V.put,fM,g0 this,b0];exact h
def wR.v(h:wR dst u F F'){v:ao}(ag:aH D v u):sp dst v D F F':=⟨λd aj=>by rw[h.1 d aj];exact .val ag,h.2⟩
section
variable{X:cB}{G:GT}{pr:kt}{D:bz}{m m':be}{F:Fr}{ak:a8 ao}{C:dp}{I:aM}{M:List aE}{K:fD}{o:Oper}{v:ao}
def Hc(X:cB)(G:GT)(pr:kt)(o:Oper)(ak:a8 ao)(m:be)(v:ao)(m':be):Prop:=m.n<=m'.n/\∀ (D:bz) (F:Fr) (C:dp) (I:aM) (M:List aE) (K:fD),hT D F ak o.op.operands.toList->cE (dn X G pr) D m I M -> (∀ bk F' C' I' M',D.ext bk m.n->sp o.dst v bk F F'->cE (dn X G pr) bk m' I' M'->K F' C' I' M')->fP X o F C I M K
def ael(aC:o.op=op)(ae:j3 X.E op=0)(h:b5 X op (cR F) C I M (λx=>K (put o.dst x F) C I M) (br X o F C I M K)):fP X o F C I M K:=by
 obtain⟨dst,yZ,ty,pos,after,guard⟩:=o;simp only at aC;subst aC;cases yZ with
 |call c=>
  obtain⟨callee,args,eX⟩:=c;cases callee with
  |value f=>simp[j3]at ae| invoke r n=>exact h| builtin b=>exact h
 |alloc t=>simp[j3]at ae| box t x=>simp[j3]at ae| store t x y=>simp[j3]at ae| buildSlice t l ps=>simp[j3]at ae| makeSlice t l c=>simp[j3]at ae| _=>exact h
def Uc(aG:cw X.P X.E)(aj:∀ d,o.dst=some d->d<X.n){v:ao}(ae:j3 X.E o.op=0)(h:se X.P X.E G m.t o.op ak=some v)(H:hT D F ak o.op.operands.toList)(hm:cE (dn X G pr) D m I M)
  (k:∀ x,fm D x v->K (put o.dst x F) C I M):fP X o F C I M K:=by
 unfold se at h;split at h
 ·rename_i t x aC;exact aei aj aC h H k
 ·rename_i t x lo hi mx aC;exact aej aC (aeg aG aj aC h H hm k)
 ·rename_i t x hi mx aC;exact aeh aG aj aC h H hm k
 ·exact ael rfl ae (adF aG h H hm k)
def Mi{K:a8 ao->Option R}{r:R}(h:nB dst ak v K=some r):∃ cD,K cD=some r/\(dst=none->cD=ak)/\∀ d,dst=some d->∀ t w,cD.get t=some w->(t=d/\w=v)\/(t≠d/\ak.get t=some w):=by
 unfold nB at h;cases dst with
 |none=>exact⟨ak,h,λ_=>rfl,λd aj=>by cases aj⟩
 |some d=>
  have bq:(Ln v λv=>ak.lP (some v) d K)=some r:=h;rw[acS]at bq;obtain⟨cD,aa,ad⟩:=a8.mX (some v) ak d;rw[aa]at bq;refine⟨cD,bq,(λe=>by cases e),λh' aj t w hw=>?_⟩;cases aj;rcases ad t w hw with⟨aA,a0⟩ | ⟨aA,a0⟩;·exact .inl ⟨aA,(mZ a0).symm⟩
  ·exact .inr ⟨aA,a0⟩
def Ud(aG:cw X.P X.E)(ja:∀ d,d<X.n->X.fs.contains d=true)(aj:∀ d,o.dst=some d->d<X.n)(kW:DL (dn X G pr) call){K:a8 ao->be->Option R}{r:R}
  (h:wH (dn X G pr) call o ak m K=some r):∃ v m' cD,Hc X G pr o ak m v m'/\(nB o.dst ak v λak=>K ak m')=some r/\K cD m'=some r/\(o.dst=none->cD=ak)/\∀ d,o.dst=some d->∀ t w,cD.get t=some w->(t=d/\w=v)\/(t≠d/\ak.get t=some w):=by
 have fin:∀ {v:ao} {m':be},Hc X G pr o ak m v m'->(nB o.dst ak v λak=>K ak m')=some r->∃ v m' cD,Hc X G pr o ak m v m'/\(nB o.dst ak v λak=>K ak m')=some r/\K cD m'=some r/\(o.dst=none->cD=ak)/\∀ d,o.dst=some d->∀ t w,cD.get t=some w->(t=d/\w=v)\/(t≠d/\ak.get t=some w):=fun {v m'} au aO=>by obtain⟨cD,aa,ad,al⟩:=Mi aO;exact⟨v,m',cD,au,aO,aa,ad,al⟩
 unfold wH at h;split at h
 ·
  rename_i f args eX aC;unfold Tb at h;obtain⟨aem,az,h⟩:=bW h;obtain⟨l,av,h⟩:=bW h;obtain⟨⟨v,m'⟩,au,h⟩:=bW h;obtain⟨aJ,h⟩:=e4 h;refine fin ⟨bH aJ,λD F C I M K qj hm ae=>?_⟩ h;rw[aC]at qj;obtain⟨u,aA,a1⟩:=qj.bt (x:=f) (by simp[Op.operands,Call.operands]) az;obtain⟨us,a0,ba⟩:=qj.kO (l:=args.toList) (by intro y aD;simp[Op.operands,Call.operands];exact .inr (by simpa using aD)) av;obtain⟨dst,yZ,ty,pos,after,guard⟩:=o;simp only at aC;subst aC;rcases kW _ _ _ _ _ au D I M u us a1 ba hm with⟨g,cb,cs,rfl,ar⟩ | ⟨q,rfl,ar⟩
  ·simp only[fP,aA,a0];exact bd.whole _ ar λr I' M' bC ab=>by obtain⟨bk,aa,ad,al⟩:=ab;exact ae bk _ C I' M' aa (.put F (.val ad)) al
  ·simp only[fP,aA,a0];refine br.yield rfl aj aA a0 ⟨M,[],_,by simp,ar,λr I' M' bC ab=>?_⟩;obtain⟨bk,aa,ad,al⟩:=ab;rw[ee];exact ae bk _ C I' M' aa (.put F (.val ad)) al
 ·rename_i op dR;unfold Tf at h;split at h
  ·rename_i jV;unfold Td at h;obtain⟨v,ag,h⟩:=bW h;refine fin ⟨cI _,λD F C I M K qj hm ae=>?_⟩ h;exact Uc aG aj jV ag qj hm λx ab=>ae D _ C I M bz.m1 (.put F ab) hm
  ·unfold Tc at h;obtain⟨d,eF,h⟩:=bW h;obtain⟨⟨l,T,c,mk⟩,aY,h⟩:=bW h;obtain⟨m2,ad,aJ,al⟩:=LZ (Y:=dn X G pr) h;refine fin (v:=mk m.n) (m':=m2) ⟨by omega,λD F C I M K qj hm ae=>?_⟩ (by rw[eF];exact ad);refine TQ aG ja aj aY (by rw[eF];rfl) qj λb vs u F' C' bC az hr cu au hu Mj=>?_;have aL:=al (vs:=vs) [] (b:=b) (c:=c) hm az hr (by simpa using cu) au;rw[ee]at aL;exact ae _ F' C' I _ bz.AX (Mj.v (hu _ _ (bz.nD _ _ _))) aL
  ·unfold Te at h;obtain⟨⟨v,m'⟩,ab,h⟩:=bW h;obtain⟨aJ,h⟩:=e4 h;refine fin ⟨bH aJ,λD F C I M K qj hm ae=>?_⟩ h;exact aek aG aj ab qj hm λbk u M' aa ad al=>ae bk _ C I M' aa (.put F (.val ad)) al
end
def j6(X:cB)(G:GT)(pr:kt)(D0:bz)(n0:Nat)(ak:a8 ao)(m:be)(a:Act)(w:World):Prop:=
 ∃ D F C I M,Rel X a w F C I M/\om D F ak/\cE (dn X G pr) D m I M/\D0.ext D n0/\n0<=m.n
section
variable{X:cB}{G:GT}{pr:kt}{D0:bz}{n0:Nat}{m m':be}{ak cD:a8 ao}{a:Act}{w:World}
def bz.Ue{DB:bz}(h:D.ext bk n)(bq:bk.ext DB hB)(aJ:n<=hB):D.ext DB n:=λi hi=>by rw[bq i (by omega),h i hi]
def aen{ops:Array Oper}{o:Oper}(h:sg ops.toList o ak=some b)(bf:∀ t,eb β (F t) (a.tmps.getD t undef))(t':om D F ak):Region.wanted o (yielded ops a.tmps)=b:=by
 unfold sg at h;split at h
 ·rename_i ax;cases h;simp[Region.wanted,ax]
 ·rename_i j c ax;split at h
  ·cases h
  ·rename_i d ai;have jL:(ops[j]?).bind (·.dst)=some d:=by rw[wN]at ai;simpa using ai
   have aD:=BG jL a.tmps;split at h
   ·rename_i q aK;cases h;have ar:=t' _ _ aK;have ag:a.tmps.getD d undef=.bool q:=by
     have aa:=bf d;rcases ar with⟨u,e,hu⟩ | ⟨e9,cM,e⟩;·rw[e]at aa;rw[aa,hu.bool]
     ·cases cM;rw[e]at aa;exact aa
    simp[Region.wanted,ax,aD,zw ag]
   ·rename_i l aK;cases h;have ar:=t' _ _ aK;obtain⟨u,e,hu⟩:=ar.tu (by simp);obtain⟨vs,_,rfl⟩:=hu.LL;have aa:=bf d;rw[e]at aa;have xN:yielded ops a.tmps j=none:=by
     rw[aD];cases jn:a.tmps[d]? with
     |none=>rfl| some v=>simp only[eb,m9,jn,jG]at aa;subst aa;rfl
    simp[Region.wanted,ax,xN]
   ·cases h
def Uf{o:Oper}{K:a8 ao->Option R}{r:R}(h:yM o ak K=some r):∃ cD,K cD=some r/\(o.dst=none->cD=ak)/\∀ d,o.dst=some d->∀ t w,cD.get t=some w->(t=d/\w=.t [])\/(t≠d/\ak.get t=some w):=by
 unfold yM at h;cases aj:o.dst with
 |none=>rw[aj]at h;exact⟨ak,h,λ_=>rfl,λd e=>by cases e⟩
 |some d=>
  rw[aj]at h;obtain⟨cD,aa,ad⟩:=a8.mX (some (ao.t [])) ak d;simp only[aa]at h;refine⟨cD,h,(λe=>by cases e),λh' eJ t w hw=>?_⟩;cases eJ;rcases ad t w hw with⟨aA,a0⟩ | ⟨aA,a0⟩;·exact .inl ⟨aA,(mZ a0).symm⟩
  ·exact .inr ⟨aA,a0⟩
def om.step{v:ao}(h:om D F ak)(bg:D.le bk)(aO:sp dst v bk F F')(aa:dst=none->cD=ak)(ad:∀ d,dst=some d->∀ t w,cD.get t=some w->(t=d/\w=v)\/(t≠d/\ak.get t=some w)):om bk F' cD:=λt u aw=>by
 cases aj:dst with
 |none=>rw[aa aj]at aw;exact aO.2 bk t u (by rw[aj];simp) ((h t u aw).mono bg)
 |some d=>
  rcases ad d aj t u aw with⟨rfl,rfl⟩ | ⟨bs,ax⟩;·exact aO.1 _ aj
  ·exact aO.2 bk t u (by rw[aj];intro e;cases e;exact bs rfl) ((h t u ax).mono bg)
def Mk(aG:cw X.P X.E)(ja:∀ d,d<X.n->X.fs.contains d=true){call:ao->List ao->be->Option (ao×be)}(kW:DL (dn X G pr) call)(ops:Array Oper)(Q:Exit->Act->World->Prop)(oH:∀ a w,j6 X G pr D0 n0 cD m' a w->Q .normal a w):∀ (l:List Oper) (k:Nat),(∀ j,l[j]?=ops[k+j]?)->(∀ o∈l,∀ d,o.dst=some d->d<X.n)->∀ {ak m a w},AJ (dn X G pr) call ops.toList l ak m=some (cD,m') -> j6 X G pr D0 n0 ak m a w->wpOpsIn (f' X) 0 X.P ops Q (List.range' k l.length) a w
 |[],k,_,_,ak,m,a,w,h,ar=>by have bq:some (ak,m)=some (cD,m'):=h;cases bq;exact oH _ _ ar
 |o::bc,k,av,aj,ak,m,a,w,h,ar=>by
  have ay:ops[k]?=some o:=by simpa using(av 0).symm
  have jm:∀ j,bc[j]?=ops[k+1+j]?:=λj=>by have:=av (j+1);simpa[qs,By 1 j]using this
  have eJ:∀ o∈bc,∀ d,o.dst=some d->d<X.n:=λo aC=>aj o (by simp[aC]);have vy:=aj o (by simp);have bq:bh (sg ops.toList o ak) none (λw=>bM w (wH (dn X G pr) call o ak m λak m=>AJ (dn X G pr) call ops.toList bc ak m) (yM o ak λak=>AJ (dn X G pr) call ops.toList bc ak m))=some (cD,m'):=h;obtain⟨b,ah,bq⟩:=bW bq;obtain⟨D,F,C,I,M,⟨β,aX⟩,bf,hm,ab,aJ⟩:=ar;have hw:=aen ah aX.ak bf;simp only[ea,Iy,wpOpsIn,ay];rw[hw];cases b with
  |true=>have ad:wH (dn X G pr) call o ak m (λak m=>AJ (dn X G pr) call ops.toList bc ak m)=some (cD,m'):=bq;obtain⟨v,db,eP,⟨DM,DN⟩,-,al,a1,ba⟩:=Ud aG ja vy kW ad;simp only[pF];refine rs (λbF w'=>?_) (zv aG vy ⟨β,aX⟩ (DN D F C I M (λF' C' I' M'=>∃ bk,D.ext bk m.n/\om bk F' eP/\cE (dn X G pr) bk db I' M') (bf.op _) hm λbk F' C' I' M' aA a0 bY=>⟨bk,aA,bf.step (hm.le aA) a0 a1 ba,bY⟩));rintro⟨F',C',I',M',gw,bk,aA,a0,bY⟩;exact Mk aG ja kW ops Q oH bc (k+1) jm eJ al ⟨bk,F',C',I',M',gw,a0,bY,bz.Ue ab aA aJ,lj aJ DM⟩
  |false=>have ad:yM o ak (λak=>AJ (dn X G pr) call ops.toList bc ak m)=some (cD,m'):=bq;obtain⟨eP,al,a1,ba⟩:=Uf ad;simp only[jF,ky];refine⟨λ_ _=>trivial,Mk aG ja kW ops Q oH bc (k+1) jm eJ al ⟨D,put o.dst (.val undef) F,C,I,M,⟨β,aX.put (x:=.val undef) vy rfl⟩,bf.step (bz.le_refl D) (.put F (.val .undef)) a1 ba,hm,ab,aJ⟩⟩
end
def aeo(aW:∀ j e,kS ops j e->e<j)(J:(Nat->Prop)->Act->World->Prop)(step:∀ (L:Nat->Prop) a w q o,J L a w->xX ops L->(∀ i,L i->i<ops.length)->ops[q]?=some o->¬ L q->(∀ e,kS ops q e->L e) -> (Region.wanted o (yielded ops.toArray a.tmps)=true->o.wpIn (f' X) 0 X.P a w (J λj=>L j\/j=q) Q)/\(Region.wanted o (yielded ops.toArray a.tmps)=false->J (λj=>L j\/j=q) (a.put o.dst undef) w))
  (fin:∀ a w,J (λi=>i<ops.length) a w->Q .normal a w):∀ (eg:Nat) (cU:Array Bool) (a:Act) (w:World),cU.size=ops.length->todo ops cU<=eg->xX ops (λi=>cU.getD i false=true) ->
   J (λi=>cU.getD i false=true) a w->wpAnyIn (f' X) 0 X.P .any ops.toArray Q eg cU a w:=by
 have eV:∀ (cU:Array Bool) (i:Nat),cU.getD i false=true->i<cU.size:=λcU i h=>by refine BV λaJ=>?_;simp[Array.getD,aJ]at h
 have full:∀ (cU:Array Bool) a w,cU.size=ops.length->Region.ready .any ops.toArray cU=[]->J (λi=>cU.getD i false=true) a w->Q .normal a w:=λcU a w cx lx bL=>by
  have all:∀ i,i<ops.length->cU.getD i false=true:=λi=>by
   induction i using Nat.strongRecOn with
   |ind i aR=>
    intro hi;refine BV λaJ=>?_;have aC:ops[i]?=some ops[i]:=dX hi;have:i∈Region.ready .any ops.toArray cU:=(mem_ready cx).2 ⟨_,aC,aJ,λe he=>by
     have aa:=aW i e he;exact aR e aa (by omega)⟩
    rw[lx]at this;cases this
  have e:(λi=>cU.getD i false=true)=λi=>i<ops.length:=by funext i;simp only[eq_iff_iff];exact⟨λh=>by have:=eV cU i h;omega,all i⟩
  rw[e]at bL;exact fin a w bL
 intro eg
 induction eg with
 |zero=>
  intro cU a w cx az ez bL;have lx:Region.ready .any ops.toArray cU=[]:=by
   cases af:Region.ready .any ops.toArray cU with
   |nil=>rfl| cons i l=>obtain⟨o,aC,aJ,_⟩:=(mem_ready cx).1 (by rw[af];simp:i∈Region.ready .any ops.toArray cU);have:=Fq (ih.1 aC).1 cx aJ;omega
  exact⟨lx,full cU a w cx lx bL⟩
 |succ eg aR=>
  intro cU a w cx az ez bL;refine⟨λlx=>full cU a w cx lx bL,λq aK=>?_⟩;obtain⟨o,aC,aJ,aj⟩:=(mem_ready cx).1 aK;have cy:=(ih.1 aC).1;have fR:=PI (cU:=cU) (i:=q) (by omega);have next:∀ bF w',J (λj=>cU.getD j false=true\/j=q) bF w'->wpAnyIn (f' X) 0 X.P .any ops.toArray Q eg (cU.setIfInBounds q true) bF w':=λbF w' h=>by
   refine aR _ bF w' (by simpa using cx) ?_ ?_ (by rw[fR];exact h);·have:=Fq cy cx aJ;omega
   ·rw[fR];rintro j e (ai | rfl) he
    ·exact .inl (ez j e ai he)
    ·exact .inl (aj e he)
  obtain⟨s1,s2⟩:=step _ a w q o bL ez (λi hi=>by have:=eV cU i hi;omega) aC aJ aj;have B7:ops.toArray[q]?=some o:=by simpa using aC
  unfold wpOpIn;simp only[B7];cases hw:Region.wanted o (yielded ops.toArray a.tmps)with
  |true=>
   simp only[pF];exact rs next (s1 hw)
  |false=>simp only[jF,ky];exact⟨λ_ _=>trivial,next _ _ (s2 hw)⟩
def Ug{S:List be}{lo hi:Nat}{p:be->Bool}{m:be}(h:AM S lo hi p=true)(aa:lo<=j)(ad:j<=hi)(ai:S[j]?=some m):p m=true:=by unfold AM at h;refine fL.1 h m ?_;refine vF (i:=j-lo) ?_;rw[j',ck (by omega),na,show lo+(j-lo)=j by omega];exact ai
def filter_le{p:α->Bool}:∀ {l:List α},(∀ q e,l[q]?=some e->p e=true->q<j)->(l.filter p).length<=j:=by
 intro l h;have aA:l.filter p=(l.take j).filter p:=by
  conv=>lhs;rw[<-qM j l]
  rw[CL];have:(l.drop j).filter p=[]:=by rw[List.filter_eq_nil_iff];intro a aY aO;obtain⟨q,aK⟩:=Gy aY;rw[na]at aK;have:=h _ _ aK aO;omega
  rw[this,ee]
 rw[aA];refine lj (BW _ _) ?_;simp;omega
def le_filter{p:α->Bool}{l:List α}(ai:j<=l.length)(h:∀ q e,q<j->l[q]?=some e->p e=true):j<=(l.filter p).length:=by
 have aA:(l.take j).filter p=l.take j:=by
  rw[List.filter_eq_self];intro a aY;obtain⟨q,aK⟩:=Gy aY;rw[j']at aK;split at aK;·exact h q a (by assumption) aK
  ·cases aK
 have a0:l.filter p=(l.take j).filter p++(l.drop j).filter p:=by
  conv=>lhs;rw[<-qM j l]
  rw[CL]
 rw[a0,aA,cL,fu];omega
mutual
def Uh{D:bz}:∀ {x y:ao} {u:Value},AL x y=true->aH D x u->aH D y u
 |x,y,u,h,ab=>by
  cases x<;>cases y<;>simp only[AL,jF,b']at h
  case b.b=>
   have:=eq_of_beq h;subst this;exact ab
  case i.i=>
   obtain⟨aa,ad⟩:=h;have:=IntKind.zs aa;subst this;rw[yO,hk]at ad;subst ad;exact ab
  case s.s=>
   rw[AP,hk]at h;subst h;exact ab
  case pn.pn=>exact ab
  case p.p=>
   obtain⟨aa,ad⟩:=h;have:=dr aa;subst this;have:=dr ad;subst this;exact ab
  case g.g=>
   obtain⟨aa,ad⟩:=h;have:=dr aa;subst this;have:=dr ad;subst this;exact ab
  case sn.sn=>exact ab
  case sl.sl=>
   obtain⟨aa,ad,al,aL⟩:=h;have:=dr aa;subst this;have:=dr ad;subst this;have:=dr al;subst this;have:=dr aL;subst this;exact ab
  case sx.sx=>
   obtain⟨aa,ad,al,aL⟩:=h;have:=dr aa;subst this;have:=dr ad;subst this;have:=dr al;subst this;have:=dr aL;subst this;exact ab
  case gs.gs=>
   obtain⟨aa,ad,al,aL⟩:=h;have:=dr aa;subst this;have:=dr ad;subst this;have:=dr al;subst this;have:=dr aL;subst this;exact ab
  case mn.mn=>exact ab
  case m.m=>have:=dr h;subst this;exact ab
  case f.f=>
   obtain⟨aa,ad,al⟩:=h;have:=dr aa;subst this;simp only[aH]at ab |-;obtain⟨vs,ws,a1,ba,b4⟩:=ab;exact⟨vs,ws,A0 ad a1,A0 al ba,b4⟩
  case y.y=>have:=dr h;subst this;exact ab
  case fn.fn=>exact ab
  case ni.ni=>exact ab
  case t.t=>
   simp only[aH]at ab |-;obtain⟨vs,a1,ba⟩:=ab;exact⟨vs,A0 h a1,ba⟩
  case a.a=>
   simp only[aH]at ab |-;obtain⟨vs,a1,ba⟩:=ab;exact⟨vs,A0 h a1,ba⟩
def A0{D:bz}:∀ {x y:List ao} {us:List Value},tt x y=true->bx D x us->bx D y us
 |[],[],us,h,ab=>ab| [],_::_,us,h,ab=>by simp[tt]at h
 |_::_,[],us,h,ab=>by simp[tt]at h
 |x::l,y::m,us,h,ab=>by simp only[tt,b']at h;obtain⟨u,us,a1,ba,rfl⟩:=ab.ji;exact .cons (Uh h.1 a1) (A0 h.2 ba)
end
def DO(dst:Option Nat)(ak:a8 ao)(v:ao)(cD:a8 ao):Prop:=(dst=none->cD=ak)/\∀ d,dst=some d->∀ t w,cD.get t=some w->(t=d/\w=v)\/(t≠d/\ak.get t=some w)
def Hd(m m':be)(l:List ao)(T:Nat):Prop:=m'.n=m.n+1/\(∀ id e,m'.t.get id=some e->id=m.n\/m.t.get id=some e)
def u4(m m':be):Prop:=m.n<=m'.n/\∀ id e,id<m.n->m'.t.get id=some e->m.t.get id=some e
def u4.refl(m:be):u4 m m:=⟨cI _,λ_ _ _ h=>h⟩
def u4.trans{a b c:be}(h:u4 a b)(k:u4 b c):u4 a c:=⟨lj h.1 k.1,λid e hi he=>h.2 id e hi (k.2 id e (ES hi h.1) he)⟩
def Hd.grow{m m':be}{l:List ao}{T:Nat}(h:Hd m m' l T):u4 m m':=⟨by rw[h.1];omega,λid e hi he=>by
 rcases h.2 id e he with aa | aa
 ·omega
 ·exact aa⟩
def aep{m:be}{l:List ao}{T:Nat}{K:Nat->be->Option R}{r:R}(h:sf m l T K=some r):∃ m',K m.n m'=some r/\Hd m m' l T:=by unfold sf at h;obtain⟨cs,aa,ad⟩:=a8.uY l (.nil:a8 ao) 0;rw[aa]at h;obtain⟨bj,al,aL⟩:=DC h;exact⟨_,aL,rfl,λid e hi=>(al id e hi).imp (λq=>q.1) λq=>q.2⟩
def cE.grow{m m':be}(h:cE Y D m I M)(ax:u4 m m'):cE Y D m' I M where
 hC id e a aa ad:=h.hC id e a (ax.2 id e (h.iy _ _ ad) aa) ad
 inj id hD e cM a bF aa tf ad mL ah:=h.inj id hD e cM a bF (ax.2 id e (h.iy _ _ ad) aa) (ax.2 hD cM (h.iy _ _ mL) tf) ad mL ah
 iy id a ad:=ES (h.iy _ _ ad) ax.1
 oj:=h.oj
inductive kv(X:cB)(G:GT)(pr:kt)(ops:List Oper):List (Nat×Nat)->a8 ao->be->List (Nat×ao)->a8 ao->be->List be->List oi->Prop
 |nil{ak m}:kv X G pr ops [] ak m [] ak m [m] []| q {i o bc ak m v cD vs fX fB S A} (aC:ops[i]?=some o) (ae:j3 X.E o.op=0) (hw:sg ops o ak=some true) (ag:se X.P X.E G m.t o.op ak=some v) (aO:DO o.dst ak v cD) (t:kv X G pr ops bc cD m vs fX fB S A) : kv X G pr ops ((i,0)::bc) ak m ((i,v)::vs) fX fB S (bif nT o.op then .load i o ak v::A else A)| a {i o d bc ak m m' l T c mk cD vs fX fB S A} (aC:ops[i]?=some o) (ae:j3 X.E o.op=1) (hw:sg ops o ak=some true) (aj:o.dst=some d) (ag:yL X.E o ak=some (l,T,c,mk)) (aJ:Hd m m' l T) (aO:DO o.dst ak (mk m.n) cD) (t:kv X G pr ops bc cD m' vs fX fB S A) : kv X G pr ops ((i,1)::bc) ak m ((i,mk m.n)::vs) fX fB S (.made i m.n l T::A)| e {i o bc ak m m' v cD vs fX fB S A} (aC:ops[i]?=some o) (ae:j3 X.E o.op=2) (hw:sg ops o ak=some true) (au:Hc X G pr o ak m v m') (aO:DO o.dst ak v cD) (t:kv X G pr ops bc cD m' vs fX fB S A) : kv X G pr ops ((i,2)::bc) ak m ((i,v)::vs) fX fB (m::S) A| skip {i k o bc ak m cD vs fX fB S A} (aC:ops[i]?=some o) (ae:j3 X.E o.op=k) (hw:sg ops o ak=some false) (aO:DO o.dst ak (.t []) cD) (t:kv X G pr ops bc cD m vs fX fB S A) : kv X G pr ops ((i,k)::bc) ak m ((i,.t [])::vs) fX fB (bif Nat.beq k 2 then m::S else S) A
section
variable{X:cB}{G:GT}{pr:kt}{ops:List Oper}
def DP(aG:cw X.P X.E)(ja:∀ d,d<X.n->X.fs.contains d=true)(g':∀ o∈ops,∀ d,o.dst=some d->d<X.n){call:ao->List ao->be->Option (ao×be)}(kW:DL (dn X G pr) call):∀ (row:List (Nat×Nat)) {ak:a8 ao} {m:be} {me:List be} {mf:List oi} {fX:a8 ao} {fB:be} {jC:List be} {lS:List oi},mW (dn X G pr) call ops row ak m me mf=some (fX,fB,jC,lS)->∃ vs S A,kv X G pr ops row ak m vs fX fB S A/\jC=S.reverse++me/\(∀ h∈A,h∈lS)/\∀ h∈mf,h∈lS
 |[],ak,m,me,mf,fX,fB,jC,lS,h=>by simp only[mW,jl,Prod.mk.injEq]at h;obtain⟨rfl,rfl,rfl,rfl⟩:=h;exact⟨[],[m],[],.nil,by simp,by simp,λ_ h=>h⟩
 |(i,k)::bc,ak,m,me,mf,fX,fB,jC,lS,h=>by
  simp only[mW]at h;obtain⟨o,aC,h⟩:=bW h;obtain⟨w,hw,h⟩:=bW h;obtain⟨ae,h⟩:=e4 h;rw[wN]at aC;have hA:j3 X.E o.op=k:=dr ae;have vy:=g' o (vF aC);cases w with
  |false=>
   have ad:yM o ak (λak=>mW (dn X G pr) call ops bc ak m (bM (Nat.beq k 2) (m::me) me) mf)=some (fX,fB,jC,lS):=h;obtain⟨eP,al,a1,ba⟩:=Uf ad;obtain⟨vs,S,A,aw,ej,dk,sq⟩:=DP aG ja g' kW bc al;refine⟨_,_,_,.skip aC hA hw ⟨a1,ba⟩ aw,?_,dk,sq⟩;rw[ej];cases Nat.beq k 2<;>simp[bM]
  |true=>
   have aa:bM (Nat.beq k 0) (bh (se X.P X.E G m.t o.op ak) none λv=>nB o.dst ak v λcD=>mW (dn X G pr) call ops bc cD m me (bM (nT o.op) (.load i o ak v::mf) mf)) (bM (Nat.beq k 1) (bh o.dst none λd=>bh (yL X.E o ak) none λr=>sf m r.1 r.2.1 λid m=>nB (some d) ak (r.2.2.2 id) λak=>mW (dn X G pr) call ops bc ak m me (.made i id r.1 r.2.1::mf)) (wH (dn X G pr) call o ak m λak m'=>mW (dn X G pr) call ops bc ak m' (m::me) mf))=some (fX,fB,jC,lS):=h;by_cases CW:k=0
   ·subst CW;have ad:(bh (se X.P X.E G m.t o.op ak) none λv=>nB o.dst ak v λcD=>mW (dn X G pr) call ops bc cD m me (bM (nT o.op) (.load i o ak v::mf) mf))=some (fX,fB,jC,lS):=aa;obtain⟨v,ag,ad⟩:=bW ad;obtain⟨eP,al,a1,ba⟩:=Mi ad;obtain⟨vs,S,A,aw,ej,dk,sq⟩:=DP aG ja g' kW bc al;refine⟨_,_,_,.q aC hA hw ag ⟨a1,ba⟩ aw,ej,λy aD=>?_,λy aD=>sq y ?_⟩
    ·cases av:nT o.op with
     |false=>rw[av]at aD;exact dk y aD
     |true=>
      rw[av]at aD;rcases dW.1 aD with rfl | aD;·refine sq _ ?_;rw[av];simp[bM]
      ·exact dk y aD
    ·cases nT o.op with
     |false=>exact aD| true=>exact lO _ aD
   rw[g0 CW]at aa;by_cases dS:k=1
   ·subst dS;have ad:(bh o.dst none λd=>bh (yL X.E o ak) none λr=>sf m r.1 r.2.1 λid m=>nB (some d) ak (r.2.2.2 id) λak=>mW (dn X G pr) call ops bc ak m me (.made i id r.1 r.2.1::mf))=some (fX,fB,jC,lS):=aa;obtain⟨d,aj,ad⟩:=bW ad;obtain⟨⟨l,T,c,mk⟩,aY,ad⟩:=bW ad;obtain⟨m2,al,aJ⟩:=aep ad;have uK:nB o.dst ak (mk m.n) (λak=>mW (dn X G pr) call ops bc ak m2 me (.made i m.n l T::mf))=some (fX,fB,jC,lS):=by rw[aj];exact al
    obtain⟨eP,aL,a1,ba⟩:=Mi uK;obtain⟨vs,S,A,aw,ej,dk,sq⟩:=DP aG ja g' kW bc aL;refine⟨_,_,_,.a aC hA hw aj aY aJ ⟨a1,ba⟩ aw,ej,λy aD=>?_,λy aD=>sq y (lO _ aD)⟩;rcases dW.1 aD with rfl | aD;·exact sq _ (by simp)
    ·exact dk y aD
   ·rw[g0 dS]at aa;have ad:wH (dn X G pr) call o ak m (λak m'=>mW (dn X G pr) call ops bc ak m' (m::me) mf)=some (fX,fB,jC,lS):=aa;obtain⟨v,db,eP,DN,-,al,a1,ba⟩:=Ud aG ja vy kW ad;obtain⟨vs,S,A,aw,ej,dk,sq⟩:=DP aG ja g' kW bc al;have eG:k=2:=by
     have:j3 X.E o.op<=2:=by
      unfold j3;split<;>first | omega | (split<;>first | omega | (split<;>omega))
     rw[hA]at this;omega
    subst eG;exact⟨_,_,_,.e aC hA hw DN ⟨a1,ba⟩ aw,by rw[ej];simp,dk,sq⟩
def kv.head{ak fX:a8 ao}{m fB:be}{vs:List (Nat×ao)}{S:List be}{A:List oi}(h:kv X G pr ops row ak m vs fX fB S A):∃ m2 jC,S=m2::jC/\u4 m m2:=by
 induction h with
 |nil=>exact⟨_,_,rfl,.refl _⟩| q _ _ _ _ _ _ aR=>exact aR| a _ _ _ _ _ aJ _ _ aR=>obtain⟨m2,jC,aa,ad⟩:=aR;exact⟨m2,jC,aa,aJ.grow.trans ad⟩
 |e _ _ _ _ _ _ _=>exact⟨_,_,rfl,.refl _⟩
 | @skip i k o bc ak m cD vs fX fB S A _ _ _ _ _ aR=>
  cases ae:Nat.beq k 2 with
  |true=>exact⟨_,_,rfl,.refl _⟩| false=>simpa using aR
def kv.He{ak fX:a8 ao}{m fB:be}{vs:List (Nat×ao)}{S:List be}{A:List oi}(h:kv X G pr ops row ak m vs fX fB S A):m.n<=fB.n/\∀ i c l T,.made i c l T∈A->m.n<=c/\i∈row.map (·.1):=by
 induction h with
 |nil=>exact⟨cI _,λ_ _ _ _ h=>by cases h⟩
 | @q i o bc ak m v cD vs fX fB S A _ _ _ _ _ _ aR=>
  refine⟨aR.1,λfK c l T hm=>?_⟩;have nY:.made fK c l T∈A:=by
   cases av:nT o.op with
   |false=>rw[av]at hm;exact hm
   |true=>
    rw[av]at hm;rcases dW.1 hm with e | hm;·cases e
    ·exact hm
  exact⟨(aR.2 fK c l T nY).1,lO _ (aR.2 fK c l T nY).2⟩
 |a _ _ _ _ _ aJ _ _ aR=>
  refine⟨lj aJ.grow.1 aR.1,λfK c l T hm=>?_⟩;rcases dW.1 hm with e | hm;·cases e;exact⟨cI _,by simp⟩
  ·exact⟨lj aJ.grow.1 (aR.2 fK c l T hm).1,lO _ (aR.2 fK c l T hm).2⟩
 |e _ _ _ au _ _ aR=>exact⟨lj au.1 aR.1,λfK c l T hm=>⟨lj au.1 (aR.2 fK c l T hm).1,lO _ (aR.2 fK c l T hm).2⟩⟩| skip _ _ _ _ _ aR=>exact⟨aR.1,λfK c l T hm=>⟨(aR.2 fK c l T hm).1,lO _ (aR.2 fK c l T hm).2⟩⟩
def kv.split:∀ (a5:List (Nat×Nat)) {bc:List (Nat×Nat)} {ak fX:a8 ao} {m fB:be} {vs:List (Nat×ao)} {S:List be} {A:List oi},kv X G pr ops (a5++bc) ak m vs fX fB S A -> ∃ tA u5 eP db sr u6 tB,vs=tA++u5/\tA.map (·.1)=a5.map (·.1)/\S=sr++u6/\sr.length=(a5.filter λr=>Nat.beq r.2 2).length/\kv X G pr ops bc eP db u5 fX fB u6 tB/\(∀ h∈tB,h∈A)/\m.n<=db.n /\ (∀ t w,eP.get t=some w->(∃ i,(i,w)∈tA/\hK ops i=some t)\/((∀ i∈a5.map (·.1),hK ops i≠some t)/\ak.get t=some w)) /\ (∀ i c l T,.made i c l T∈A->.made i c l T∈tB\/c<db.n)
 |[],bc,ak,fX,m,fB,vs,S,A,h=>⟨[],vs,ak,m,[],S,A,rfl,rfl,rfl,rfl,h,λ_ h=>h,cI _,λt w hw=>.inr ⟨by simp,hw⟩,λ_ _ _ _ h=>.inl h⟩
 |(i,k)::a5,bc,ak,fX,m,fB,vs,S,A,h=>by
  have fin:∀ {o:Oper} {cD:a8 ao} {m':be} {v:ao} {qx:List (Nat×ao)} {jC S:List be} {lS A:List oi},ops[i]?=some o->DO o.dst ak v cD->m.n<=m'.n->kv X G pr ops (a5++bc) cD m' qx fX fB jC lS -> (S=if Nat.beq k 2 then m::jC else jC)->(∀ h∈lS,h∈A)->(∀ i c l T,.made i c l T∈A->.made i c l T∈lS\/c<m'.n) ->
    ∃ tA u5 eP db sr u6 tB,(i,v)::qx=tA++u5/\tA.map (·.1)=((i,k)::a5).map (·.1)/\S=sr++u6/\sr.length=(((i,k)::a5).filter λr=>Nat.beq r.2 2).length/\kv X G pr ops bc eP db u5 fX fB u6 tB/\(∀ h∈tB,h∈A)/\m.n<=db.n /\ (∀ t w,eP.get t=some w->(∃ i,(i,w)∈tA/\hK ops i=some t)\/((∀ fK∈((i,k)::a5).map (·.1),hK ops fK≠some t)/\ak.get t=some w)) /\
     (∀ i c l T,.made i c l T∈A->.made i c l T∈tB\/c<db.n):=by
   intro o cD m' v qx jC S lS A aC aO DM aw ej dk aeq;obtain⟨tA,u5,eP,db,sr,u6,tB,aA,a0,bY,dE,kY,k6,A1,DQ,tC⟩:=kv.split a5 aw;refine⟨(i,v)::tA,u5,eP,db,(if Nat.beq k 2 then m::sr else sr),u6,tB,by rw[aA];rfl,by simp[a0],?_,?_,kY,λh cK=>dk h (k6 h cK),lj DM A1,λt w hw=>?_,λi c l T hm=>?_⟩
   ·rw[ej,bY];split<;>simp
   ·simp only[xT];split<;>simp[dE]
   ·rcases DQ t w hw with⟨fK,aa,ad⟩ | ⟨aa,ad⟩
    ·exact .inl ⟨fK,lO _ aa,ad⟩
    ·have nW:hK ops i=o.dst:=by simp[hK,aC]
     cases aj:o.dst with
     |none=>
      rw[aO.1 aj]at ad;refine .inr ⟨λfK ct=>?_,ad⟩;rcases dW.1 ct with e | ct;·rw[show fK=i from e,nW,aj];simp
      ·exact aa fK ct
     |some d=>
      rcases aO.2 d aj t w ad with⟨rfl,rfl⟩ | ⟨bs,al⟩;·exact .inl ⟨i,by simp,by rw[nW,aj]⟩
      ·refine .inr ⟨λfK ct=>?_,al⟩;rcases dW.1 ct with e | ct
       ·rw[show fK=i from e,nW,aj];exact λe=>bs (by cases e;rfl)
       ·exact aa fK ct
   ·rcases aeq i c l T hm with aa | aa
    ·exact tC i c l T aa
    ·exact .inr (ES aa A1)
  cases h with
  |q aC ae hw ag aO t=>
   rename_i o v cD qx lS;refine fin aC aO (cI _) t (by simp) (λh cK=>?_) λi c l T hm=>?_
   ·cases nT o.op with
    |false=>exact cK| true=>exact lO _ cK
   ·cases av:nT o.op with
    |false=>rw[av]at hm;exact .inl hm
    |true=>
     rw[av]at hm;rcases dW.1 hm with e | hm;·cases e
     ·exact .inl hm
  |a aC ae hw aj ag aJ aO t=>
   refine fin aC aO aJ.grow.1 t (by simp) (λh cK=>lO _ cK) λi c l T hm=>?_;rcases dW.1 hm with e | hm;·cases e;exact .inr (by rw[aJ.1];omega)
   ·exact .inl hm
  |e aC ae hw au aO t=>exact fin aC aO au.1 t (by simp) (λ_ h=>h) λ_ _ _ _ h=>.inl h
  |skip aC ae hw aO t=>exact fin aC aO (cI _) t (by cases Nat.beq k 2<;>rfl) (λ_ h=>h) λ_ _ _ _ h=>.inl h
end
section
variable{ops:List Oper}
def aer{i k:Nat}{o:Oper}(aC:ops[i]?=some o)(h:B1 o k=true):∀ e,kS ops i e->k.testBit e=true:=by rintro e⟨o',lv,oV,oS,ah,rfl⟩;rw[aC]at oV;cases oV;have:=fL.1 h lv (by simpa using oS);rw[ah]at this;simpa using this
def Hf:∀ {row:List (Nat×Nat)} {k:Nat},ts ops row k=true->∀ (a5:List (Nat×Nat)) (i c:Nat) (post:List (Nat×Nat)),row=a5++(i,c)::post -> (∃ o,ops[i]?=some o)/\k.testBit i=false/\i ∉ a5.map (·.1)/\∀ e,kS ops i e->k.testBit e=true\/e∈a5.map (·.1)
 |[],k,h,a5,i,c,post,e=>by simp at e
 |(i0,uM)::row,k,h,a5,i,c,post,e=>by
  simp only[ts,b',qC]at h;obtain⟨aa,ad⟩:=h;split at ad
  ·rename_i o aC;rw[b']at ad;cases a5 with
   |nil=>simp only[jq,vU,Prod.mk.injEq]at e;obtain⟨⟨rfl,rfl⟩,rfl⟩:=e;exact⟨⟨o,aC⟩,aa,by simp,λe he=>.inl (aer aC ad.1 e he)⟩
   |cons p a5=>
    simp only[qO,vU]at e;obtain⟨aA,a0⟩:=e;obtain⟨a1,ba,b4,gx⟩:=Hf ad.2 a5 i c post a0;have ah:∀ x,(k ||| 2^i0).testBit x=(k.testBit x||decide (x=i0)):=λx=>by rw[Fe,Fb];congr 1;exact decide_eq_decide.2 eq_comm
    rw[ah,qN]at ba;refine⟨a1,ba.1,?_,λe he=>?_⟩;·rw[<-aA];simp only[cc,dW,not_or];exact⟨by simpa using ba.2,b4⟩
    ·rcases gx e he with h | h
     ·rw[ah,jP]at h;rcases h with h | h
      ·exact .inl h
      ·exact .inr (by rw[<-aA];simp at h;simp[h])
     ·exact .inr (by rw[cc];exact lO _ h)
  ·cases ad
def Ml:∀ {row:List (Nat×Nat)} {k:Nat},ts ops row k=true->∀ i,i<ops.length->k.testBit i=true\/i∈row.map (·.1)
 |[],k,h,i,hi=>by
  simp only[ts]at h;have:=dr h;subst this
  left
  rw[Nat.testBit_two_pow_sub_one];simpa using hi
 |(i0,uM)::row,k,h,i,hi=>by
  simp only[ts,b',qC]at h;obtain⟨aa,ad⟩:=h;split at ad
  ·rw[b']at ad;rcases Ml ad.2 i hi with h | h
   ·rw[Fe,Fb,jP]at h;rcases h with h | h
    ·exact .inl h
    ·have:i0=i:=by simpa using h
     exact .inr (by simp[this])
   ·exact .inr (by rw[cc];exact lO _ h)
  ·cases ad
def aes(h:ts ops row 0=true):(row.map (·.1)).Nodup:=by
 have key:∀ {row:List (Nat×Nat)} {k:Nat},ts ops row k=true->(row.map (·.1)).Nodup:=by
  intro row
  induction row with
  |nil=>intro k _;exact zm
  |cons r row aR=>
   intro k h;obtain⟨i0,uM⟩:=r;have bq:=h;simp only[ts,b',qC]at h;obtain⟨aa,ad⟩:=h;split at ad;·rw[b']at ad;rw[cc,kN];refine⟨λhm=>?_,aR ad.2⟩;obtain⟨⟨x,c⟩,ab,Mm⟩:=cG.1 hm;obtain⟨a5,post,e⟩:=sc ab;have Mn:x=i0:=Mm;subst Mn;have:=(Hf bq ((x,uM)::a5) x c post (by rw[e];rfl)).2.2.1;exact this (by simp)
   ·cases ad
 exact key h
def Ui{α β:Type}:∀ {l:List (α×β)},(l.map (·.1)).Nodup->∀ {k:α} {a b:β},(k,a)∈l->(k,b)∈l->a=b
 |[],_,k,a,b,h,_=>by cases h
 |(CW,c)::l,aJ,k,a,b,h,bq=>by
  rw[cc,kN]at aJ;rcases dW.1 h with e | h
  ·cases e;rcases dW.1 bq with cM | bq
   ·cases cM;rfl
   ·exact(aJ.1 (cG.2 ⟨_,bq,rfl⟩)).elim
  ·rcases dW.1 bq with cM | bq
   ·cases cM;exact(aJ.1 (cG.2 ⟨_,h,rfl⟩)).elim
   ·exact Ui aJ.2 h bq
end
section
variable{X:cB}{G:GT}{pr:kt}{D0:bz}{n0:Nat}{a:Act}{w:World}
def Hg{o:Oper}{ak:a8 ao}(h:sg ops o ak=some b)(bf:∀ t,eb β (F t) (a.tmps.getD t undef))(H:∀ t∈looks ops o,∀ v,ak.get t=some v->fm D (F t) v) :
  Region.wanted o (yielded ops.toArray a.tmps)=b:=by
 unfold sg at h;split at h
 ·rename_i ax;cases h;simp[Region.wanted,ax]
 ·rename_i j c ax;split at h
  ·cases h
  ·rename_i d ai;have jL:(ops[j]?).bind (·.dst)=some d:=by rw[wN]at ai;simpa using ai
   have aet:(ops.toArray[j]?).bind (·.dst)=some d:=by simpa using jL
   have aD:=BG aet a.tmps;have kg:d∈looks ops o:=IZ ax jL;split at h
   ·rename_i q aK;cases h;have ar:=H _ kg _ aK;have ag:a.tmps.getD d undef=.bool q:=by
     have aa:=bf d;rcases ar with⟨u,e,hu⟩ | ⟨e9,cM,e⟩;·rw[e]at aa;rw[aa,hu.bool]
     ·cases cM;rw[e]at aa;exact aa
    simp[Region.wanted,ax,aD,zw ag]
   ·rename_i l aK;cases h;have ar:=H _ kg _ aK;obtain⟨u,e,hu⟩:=ar.tu (by simp);obtain⟨vs,_,rfl⟩:=hu.LL;have aa:=bf d;rw[e]at aa;have xN:yielded ops.toArray a.tmps j=none:=by
     rw[aD];cases jn:a.tmps[d]? with
     |none=>rfl| some v=>simp only[eb,m9,jn,jG]at aa;subst aa;rfl
    simp[Region.wanted,ax,xN]
   ·cases h
def aeu{o:Oper}{ak:a8 ao}(H:∀ t∈looks ops o,∀ v,ak.get t=some v->fm D (F t) v):hT D F ak o.op.operands.toList:=λx ab v ag=>by
 cases x with
 |tmp t=>exact H t (I0 (by simpa using ab)) v ag| const c=>exact(show om D F .nil from λt v h=>by cases h).op [.const c] (.const c) (by simp) v ag| global g=>exact(show om D F .nil from λt v h=>by cases h).op [.global g] (.global g) (by simp) v ag| func f=>exact(show om D F .nil from λt v h=>by cases h).op [.func f] (.func f) (by simp) v ag
def aev{m m2:a8 eA}{ak:a8 ao}(h:nT op=false):se X.P X.E G m op ak=se X.P X.E G m2 op ak:=by
 cases op with
 |load=>simp[nT]at h| slice t x lo hi mx=>cases mx<;>cases lo<;>cases hi<;>rfl
 |unOp u=>cases u<;>rfl
 |call c=>
  obtain⟨callee,args,eX⟩:=c;cases callee<;>rfl
 |_=>rfl
def A2(X:cB)(G:GT)(pr:kt)(D0:bz)(n0:Nat)(ops:List Oper)(es:List Nat)(ak:a8 ao)(vs:List (Nat×ao))(S:List be)(A:List oi)(L:Nat->Prop)(a:Act)(w:World):Prop:=
 ∃ D F C I M j po,Rel X a w F C I M/\(∀ q e,es[q]?=some e->(L e ↔ q<j))/\j<=es.length/\S[j]?=some po/\cE (dn X G pr) D po I M/\(∀ i v t,L i->(i,v)∈vs->hK ops i=some t->fm D (F t) v) /\ (∀ t v,(∀ i,L i->hK ops i≠some t)->ak.get t=some v->fm D (F t) v)/\(∀ i c l T,oi.made i c l T∈A->¬ L i->D c=none)/\D0.ext D n0
def A2.ak(c3:s3 ops){L:Nat->Prop}{q:Nat}{o:Oper}(aK:ops[q]?=some o)(oU:¬ L q){vs:List (Nat×ao)}(A3:(vs.map (·.1)).Nodup){v:ao}(ag:(q,v)∈vs){ak:a8 ao}(bg:D.le bk)(aO:sp o.dst v bk F F')(dk:∀ i v t,L i->(i,v)∈vs->hK ops i=some t->fm D (F t) v)(Hh:∀ t v,(∀ i,L i->hK ops i≠some t)->ak.get t=some v->fm D (F t) v) :
  (∀ i v t,(L i\/i=q)->(i,v)∈vs->hK ops i=some t->fm bk (F' t) v)/\(∀ t v,(∀ i,(L i\/i=q)->hK ops i≠some t)->ak.get t=some v->fm bk (F' t) v):=by
 have Uj:hK ops q=o.dst:=by simp[hK,aK]
 constructor
 ·rintro i u t (hi | rfl) hm aj
  ·have bs:o.dst≠some t:=λe=>by obtain⟨fw,hb,nW⟩:=B5 aj;exact c3.IY i q fw o t (λcM=>oU (cM ▸ hi)) hb aK nW e
   exact aO.2 bk t u bs ((dk i u t hi hm aj).mono bg)
  ·rw[Ui A3 hm ag];rw[Uj]at aj;exact aO.1 t aj
 ·intro t u dR ax;have bs:o.dst≠some t:=λe=>dR q (.inr rfl) (by rw[Uj,e]);exact aO.2 bk t u bs ((Hh t u (λi hi=>dR i (.inl hi)) ax).mono bg)
end
section
variable{X:cB}{G:GT}{pr:kt}{D0:bz}{n0:Nat}{a:Act}{w:World}
def Mo{fQ:List Nat}:∀ {es:List Nat},GP fQ es=true->∀ (p q:Nat) (x y:Nat),p<q->es[p]?=some x->es[q]?=some y->(fQ.getD y 0).testBit x=true
 |[],_,p,q,x,y,_,ab,_=>by simp at ab
 |e::es,h,p,q,x,y,nh,ab,aD=>by
  simp only[GP,b']at h;cases q with
  |zero=>omega
  |succ q=>
   have qy:es[q]?=some y:=by simpa using aD
   cases p with
   |zero=>simp at ab;subst ab;exact fL.1 h.1 y (vF qy)| succ p=>exact Mo h.2 p q x y (by omega) (by simpa using ab) qy
def aew:e∈uX E ops ↔ e<ops.length/\yN E ops e=2:=by
 unfold uX;rw[nR,kb];constructor
 ·rintro⟨aa,ad⟩;exact⟨aa,dr ad⟩
 ·rintro⟨aa,ad⟩;exact⟨aa,by rw[ad];rfl⟩
def Uk{i:Nat}{o:Oper}(h:ops[i]?=some o):yN E ops i=j3 E o.op:=by unfold yN;rw[wN,h];rfl
def fm.same{x:dd}{u v:ao}(h:fm D x u)(ar:AL u v=true):fm D x v:=by
 rcases h with⟨y,rfl,h⟩ | ⟨q,rfl,rfl⟩
 ·exact .val (Uh ar h)
 ·have:v=.b q:=by
   cases v<;>simp only[AL,jF]at ar
   rw[eq_of_beq ar]
  exact .inr ⟨q,this,rfl⟩
def aex(aG:cw X.P X.E)(ja:∀ d,d<X.n->X.fs.contains d=true)(kW:DL (dn X G pr) call){id:Nat}{DR:Array Oper}(hl:X.P.follows .mixedOrders=true)(aJ:vC X.n DR=true)
  {ak fX:a8 ao} {m fB:be} (h:Ly (dn X G pr) call DR.toList ak m=some (fX,fB)) (oH:∀ a w,j6 X G pr D0 n0 fX fB a w->Q .normal a w) (ar:j6 X G pr D0 n0 ak m a w) :
  (Code.region id DR true).wpIn (f' X) 0 X.P Q a w:=by
 refine wpIn_region_any hl ?_;generalize s0:DR.toList=ops at h;have aey:DR=ops.toArray:=by apply fZ;simpa using s0
 subst aey;have g':∀ o∈ops,∀ d,o.dst=some d->d<X.n:=by simpa using E3 aJ
 unfold Ly at h;obtain⟨Mp,h⟩:=e4 h;unfold Ti at Mp;simp only[b']at Mp;obtain⟨aez,kJ,Ul,Aj⟩:=Mp;have c3:s3 ops:=PA aez;have Um:((Dp X.E ops).filter λr=>Nat.beq r.2 2).map (·.1)=uX X.E ops:=by simpa using Aj
 clear Aj;generalize kF:uX X.E ops=es at *;have Mq:∀ e,e∈es ↔ e<ops.length/\yN X.E ops e=2:=λe=>by rw[<-kF];exact aew
 generalize alU:Dp X.E ops=row at *;cases DS:mW (dn X G pr) call ops row ak m [] []with
 |none=>rw[DS]at h;cases h| some aeA=>
 obtain⟨aeB,aeC,jC,lS⟩:=aeA;rw[DS]at h;have bq:bM (lS.all (Lx (dn X G pr) es (jQ ops) jC.reverse)) (some (aeB,aeC)) none=some (fX,fB):=h;clear h;obtain⟨Un,bq⟩:=e4 bq;cases bq;obtain⟨vs,S,A,Hi,Hj,aeD,-⟩:=DP aG ja g' kW row DS;rw[ee]at Hj;subst Hj;rw[L9]at Un;have Uo:∀ y∈A,Lx (dn X G pr) es (jQ ops) S y=true:=λy aD=>fL.1 Un y (aeD y aD);have kE:(row.map (·.1)).Nodup:=aes kJ;obtain⟨alV,alW,alX,alY,alZ,al0,al1,h4,kV,mF,iL,aeE,al2,aeF,aeG,al3⟩:=kv.split row (bc:=[]) (by rw[ee];exact Hi);have aeH:(row.filter λr=>Nat.beq r.2 2).length=es.length:=by rw[<-Um,bO]
 cases aeE;rw[ee]at h4;subst h4;have A3:(vs.map (·.1)).Nodup:=by rw[kV];exact kE
 have aeI:=Hi.He;have aeJ:∀ (a5:List (Nat×Nat)) (bc:List (Nat×Nat)),row=a5++bc->xX ops (λi=>i∈a5.map (·.1)):=λa5 bc k7 j e ai he=>by
  obtain⟨⟨x,c⟩,ab,Mm⟩:=cG.1 ai;have Mn:x=j:=Mm;subst Mn;obtain⟨Cw,Cx,aA⟩:=sc ab;rcases(Hf kJ Cw x c (Cx++bc) (by rw[k7,aA];simp)).2.2.2 e he with h | h;·simp at h
  ·show e∈a5.map (·.1);rw[aA,dc];exact cO.2 (.inl h)
 let J:=A2 X G pr D0 n0 ops es ak vs S A
 have key:=aeo (X:=X) (ops:=ops) (Q:=Q) c3.lt J ?step ?fin ops.length (Array.replicate ops.length false) a { w with drawn:=w.drawn+1 } (by simp) (by unfold todo;exact lj (BW _ _) (by simp)) ?cl ?start
 case cl=>
  intro j e ai;exfalso;by_cases hi:j<ops.length<;>simp[m9,hi]at ai
 case start=>
  obtain⟨D,F,C,I,M,⟨β,aX⟩,bf,kI,ab,pR⟩:=ar;obtain⟨m2,u6,aeK,ax⟩:=Hi.head;have ek:∀ i,¬ (Array.replicate ops.length false).getD i false=true:=λi=>by
   by_cases hi:i<ops.length<;>simp[m9,hi]
  refine⟨D,F,C,I,M,0,m2,⟨β,aX.world rfl⟩,λq e _=>⟨λh=>(ek e h).elim,λh=>by omega⟩,dO _,by rw[aeK];rfl,kI.grow ax,λi v t hi=>(ek i hi).elim,λt v _ ax=>bf t v ax,λi c l T o3 _=>?_,ab⟩;have:=(aeI.2 i c l T o3).1;cases DT:D c with
  |none=>rfl| some b=>have:=kI.iy _ _ DT;omega
 case fin=>
  rintro a w⟨D,F,C,I,M,j,po,aX,tD,ai,ss,kI,y0,u7,gq,ab⟩;have fx:j=es.length:=by
   refine Nat.le_antisymm ai ?_;by_cases ay:es.length=0;·omega
   ·have aW:es.length-1<es.length:=by omega
    have aa:=(tD (es.length-1) es[es.length-1] (dX aW)).1 ((Mq _).1 (b9 aW)).1;omega
  have aeL:po=fB:=by rw[fx,mF,jW (by omega),iL,aeH]at ss;simpa using ss.symm
  subst aeL;refine oH a w ⟨D,F,C,I,M,aX,λt v ax=>?_,kI,ab,?_⟩
  ·rcases aeG t v ax with⟨i,aa,ad⟩ | ⟨aa,ad⟩
   ·obtain⟨fw,hb,_⟩:=B5 ad;exact y0 i v t (ih.1 hb).1 aa ad
   ·refine u7 t v (λi hi=>?_) ad;rcases Ml kJ i hi with al | al
    ·simp at al
    ·exact aa i al
  ·obtain⟨bk,F',C',I',M',_,_,_,_,pR⟩:=ar;exact lj pR aeF
 case step=>
  rintro L a w q o⟨D,F,C,I,M,j,po,⟨β,aX⟩,tD,ai,ss,kI,y0,u7,gq,ab⟩ez k8 aK oU Hk;have gX:q<ops.length:=(ih.1 aK).1;have rJ:=g' o (vF aK);obtain⟨⟨e9,k⟩,aeM,Ms⟩:=cG.1 ((Ml kJ q gX).resolve_left (by simp));have aeN:e9=q:=Ms;subst aeN;obtain⟨a5,post,cZ⟩:=sc aeM;obtain⟨-,-,Up,aeO⟩:=Hf kJ a5 e9 k post cZ;have aeP:∀ e,kS ops e9 e->e∈a5.map (·.1):=λe he=>(aeO e he).resolve_left (by simp);have Mt:=aeJ a5 ((e9,k)::post) cZ;have Uq:=Hi;rw[cZ]at Uq;obtain⟨tA,u5,eP,db,sr,u6,tB,aA,a0,bY,dE,kY,k6,A1,DQ,tC⟩:=kv.split a5 Uq;have al4:=kY.He;have H:∀ t∈looks ops o,∀ v,eP.get t=some v->fm D (F t) v:=λt aw v ag=>by
   rcases DQ t v ag with⟨i,aa,ad⟩ | ⟨aa,ad⟩
   ·obtain⟨fw,hb,nW⟩:=B5 ad;have Ur:i∈a5.map (·.1):=by rw[<-a0];exact cG.2 ⟨_,aa,rfl⟩
    have bs:i≠e9:=λe=>Up (e ▸ Ur);rcases c3.ord i e9 fw o t bs hb aK nW aw with ah | ah;·exact y0 i v t (ah.mem ez Hk) (by rw[aA];exact cO.2 (.inl aa)) ad
    ·exact(Up (ah.mem Mt λe he=>Mt i e Ur he)).elim
   ·refine u7 t v (λi hi nj=>?_) ad;obtain⟨fw,hb,nW⟩:=B5 nj;have bs:i≠e9:=λe=>oU (e ▸ hi);rcases c3.ord i e9 fw o t bs hb aK nW aw with ah | ah
    ·exact aa i (ah.mem Mt aeP) nj
    ·exact oU (ah.mem ez λe he=>ez i e hi he)
  have qj:hT D F eP o.op.operands.toList:=aeu H;have dG:AK es (jQ ops) e9<=j:=filter_le λp e aO ah=>by exact(tD p e aO).1 ((vJ ah).mem ez Hk)
  have fO:j<=j4 es (jQ ops) e9:=le_filter ai λp e aO y1=>by
   cases ah:((jQ ops).getD e 0).testBit e9 with
   |false=>rfl| true=>have aeQ:L e:=(tD p e y1).2 aO;exact(oU ((vJ ah).mem ez λd aj=>ez e d aeQ aj)).elim
  have Us:j3 X.E o.op≠2->∀ p e,es[p]?=some e->((L e\/e=e9) ↔ p<j):=λae p e aO=>by
   have bs:e≠e9:=λhe=>ae (by
    have:=((Mq e).1 (vF aO)).2;rw[he,Uk aK]at this;exact this)
   exact⟨λcK=>(tD p e aO).1 (cK.resolve_right bs),λcK=>.inl ((tD p e aO).2 cK)⟩
  have Mu:j3 X.E o.op=2->es[j]?=some e9/\j+1<=es.length/\∀ p e,es[p]?=some e->((L e\/e=e9) ↔ p<j+1):=λae=>by
   have Ms:e9∈es:=(Mq e9).2 ⟨gX,by rw[Uk aK];exact ae⟩;obtain⟨w1,hy⟩:=Gy Ms;have al5:=(ih.1 hy).1;have aa:¬ w1<j:=λcK=>oU ((tD w1 e9 hy).2 cK);have ad:¬ j<w1:=λcK=>by
    have fx:j<es.length:=by omega
    have Mv:=Mo Ul j w1 es[j] e9 cK (dX fx) hy;have:=(tD j es[j] (dX fx)).1 ((vJ Mv).mem ez Hk);omega
   have al:w1=j:=by omega
   subst al;refine⟨hy,by omega,λp e aO=>⟨λcK=>?_,λcK=>?_⟩⟩
   ·rcases cK with cK | rfl
    ·have:=(tD p e aO).1 cK;omega
    ·refine BV λaJ=>?_;have Mv:=Mo Ul w1 p e e (by omega) hy aO;exact oU ((vJ Mv).mem ez Hk)
   ·by_cases pL:p<w1
    ·exact .inl ((tD p e aO).2 pL)
    ·have:p=w1:=by omega
     subst this;rw[hy]at aO;exact .inr (mZ aO).symm
  have plain:∀ {v:ao} {F':Fr} {C':dp} {bF:Act} {w':World},(e9,v)∈vs->j3 X.E o.op≠2->(∀ l T c,oi.made e9 c l T ∉ A\/True)->Rel X bF w' F' C' I M->sp o.dst v D F F'->J (λj=>L j\/j=e9) bF w':=fun {v F' C' bF w'} ag ae _ s7 aO=>by obtain⟨f1,f2⟩:=A2.ak c3 aK oU A3 ag (bz.le_refl D) aO y0 u7;exact⟨D,F',C',I,M,j,po,s7,Us ae,ai,ss,kI,f1,f2,λi c l T hm dR=>gq i c l T hm λhi=>dR (.inl hi),ab⟩
  have DU:∀ {v:ao} {bc:List (Nat×ao)},u5=(e9,v)::bc->(e9,v)∈vs:=fun {v bc} he=>by rw[aA,he];exact cO.2 (.inr (by simp))
  have aeR:n0<=db.n:=by obtain⟨bk,F',C',I',M',_,_,_,_,pR⟩:=ar;exact lj pR A1
  have Ut:∀ {k:Nat},k=2->row=a5++(e9,k)::post->j3 X.E o.op=2->sr.length=j:=fun {k} eG aeS ae=>by
   obtain⟨Mw,fx,_⟩:=Mu ae;have aeT:es=(a5.filter λr=>Nat.beq r.2 2).map (·.1)++e9::((post.filter λr=>Nat.beq r.2 2).map (·.1)):=by rw[<-Um,aeS,CL,dc,xT];subst eG;simp
   have bJ:es.Nodup:=by rw[<-kF];exact B0.sublist x7
   have aa:es[sr.length]?=some e9:=by rw[aeT,jW (by rw[bO,dE];exact cI _),bO,dE,kn];rfl
   have s':=(ih.1 aa).1;exact(List.getElem?_inj s' bJ).1 (by rw[aa,Mw])
  cases kY with
  | @q i o' bc k5 j2 v cD qx Mx My me mf aC ae y2 ag aO t=>
   have k9:o'=o:=mZ (aC.symm.trans aK);subst k9;have hw:=Hg y2 aX.ak H;refine⟨λ_=>?_,λaz=>by rw[hw]at az;cases az⟩;obtain⟨u,hu,aeU⟩:∃ u,se X.P X.E G po.t o'.op eP=some u/\∀ x,fm D x u->fm D x v:=by
    cases av:nT o'.op with
    |false=>exact⟨v,by rw[aev av (m2:=db.t)];exact ag,λ_ h=>h⟩
    |true=>
     have gE:oi.load e9 o' eP v∈A:=k6 _ (by rw[av];simp);have aa:=Uo _ gE;have ad:=Ug (show AM S (AK es (jQ ops) e9) (j4 es (jQ ops) e9) (Lv (dn X G pr) o' eP v)=true from aa) dG fO ss;unfold Lv at ad;split at ad;·rename_i u hu;exact⟨u,hu,λx ab=>ab.same ad⟩
     ·cases ad
   refine rs (λbF w'=>?_) (zv aG rJ ⟨β,aX⟩ (Uc (K:=λF' C' I' M'=>I'=I/\M'=M/\sp o'.dst v D F F') aG rJ ae hu qj kI λx ab=>⟨rfl,rfl,.put F (aeU x ab)⟩));rintro⟨F',C',I',M',gw,rfl,rfl,Mj⟩;exact plain (DU rfl) (by rw[ae];decide) (λ_ _ _=>.inr trivial) gw Mj
  | @a i o' d bc k5 j2 m' l T c mk cD qx Mx My me mf aC ae y2 aj ag aeV aO t=>
   have k9:o'=o:=mZ (aC.symm.trans aK);subst k9;have hw:=Hg y2 aX.ak H;refine⟨λ_=>?_,λaz=>by rw[hw]at az;cases az⟩;have gE:oi.made e9 db.n l T∈A:=k6 _ (by simp);have aa:=Uo _ gE;have ad:=Ug (show AM S (AK es (jQ ops) e9) (j4 es (jQ ops) e9) (Lw db.n l T)=true from aa) dG fO ss;unfold Lw at ad;rw[b']at ad;obtain⟨aeW,ad⟩:=ad;have aeX:db.n<po.n:=bH aeW;split at ad
   ·rename_i cs rB eV nM;simp only[b']at ad;obtain⟨bl,wS,ad⟩:=ad;have ua:=dr bl;subst ua;have T5:=dr wS;subst T5;split at ad
    ·rename_i ed jm;obtain⟨Uu,hH,ha,p1⟩:=a8.AO cs l.length 0 _ _ jm;have uC:Uu=ed:=mZ p1;subst uC;have DT:D db.n=none:=gq e9 db.n l rB gE oU;refine rs (λbF w'=>?_) (zv aG rJ ⟨β,aX⟩ (TQ (K:=λF' C' I' M'=>∃ b us u,I'=I/\M'=⟨b,.cells us.toArray rB (0,0)⟩::M/\I b=none/\(∀ x∈M,x.num≠b)/\bx D l us/\(∀ i,X.E rB=some i->us.length=c*i.size)/\c<=maxLen /\ (∀ (bk:bz) id,bk id=some ⟨b,0,c⟩->aH bk (mk id) u)/\wR o'.dst u F F') aG ja rJ ag (by rw[aj];rfl) qj λb us u F' C' a1 ba b4 gx n1 Gb Mz=>⟨b,us,u,rfl,rfl,a1,ba,b4,gx,n1,Gb,Mz⟩));rintro⟨F',C',I',M',gw,b,us,u,rfl,rfl,a1,ba,b4,gx,n1,Gb,Mz⟩;have bg:D.le (D.set db.n ⟨b,0,c⟩):=bz.wQ _ DT;have Hl:sp o'.dst (mk db.n) (D.set db.n ⟨b,0,c⟩) F F':=Mz.v (Gb _ _ (bz.nD _ _ _));obtain⟨f1,f2⟩:=A2.ak c3 aK oU A3 (DU rfl) bg Hl y0 u7;have n5:=A0 ad b4;have fR:∀ id,id≠db.n->(D.set db.n ⟨b,0,c⟩) id=D id:=λid iT=>by unfold bz.set;rw[ca iT]
     have DK:∀ id e ij,po.t.get id=some e->D id=some ij->ij.b≠b:=λid e ij hi hn yY=>by obtain⟨x,yS,A4⟩:=kI.aq hi hn;exact ba x yS (A4.trans yY)
     refine⟨D.set db.n ⟨b,0,c⟩,F',C',I',_,j,po,gw,Us (by rw[ae];decide),ai,ss,?_,f1,f2,?_,λi hi=>?_⟩
     ·refine⟨λid e ij hi hn=>?_,λid hD e cM b1 cd hi ct aa ad yY=>?_,λid ij hn=>?_,kI.oj⟩
      ·by_cases iT:id=db.n
       ·subst iT;rw[bz.nD]at hn;cases hn;rw[nM]at hi;cases hi;refine .cells us.toArray rfl (by simp) (by simp[b4.len]) (λi v hi ag=>?_) (λi hi=>by simpa using gx i hi) n1;have jK:Uu[i]?=some v:=by have:=ha i hi;rw[c9,ag]at this;exact this.symm
        obtain⟨x,yS,A4⟩:=n5.get jK;exact⟨x,by simpa using yS,A4.mono bg⟩
       ·rw[fR id iT]at hn;exact(kI.hC id e ij hi hn).mono bg λx ab _=>lO _ ab
      ·by_cases iT:id=db.n
       ·by_cases DV:hD=db.n
        ·rw[iT,DV]
        ·rw[fR hD DV]at ad;rw[iT,bz.nD]at aa;cases aa;exact(DK hD cM cd ct ad yY.symm).elim
       ·rw[fR id iT]at aa;by_cases DV:hD=db.n
        ·rw[DV,bz.nD]at ad;cases ad;exact(DK id e b1 hi aa yY).elim
        ·rw[fR hD DV]at ad;exact kI.inj id hD e cM b1 cd hi ct aa ad yY
      ·by_cases iT:id=db.n
       ·rw[iT];exact aeX
       ·rw[fR id iT]at hn;exact kI.iy _ _ hn
     ·intro i c' ed yh o3 dR;have aeY:c'≠db.n:=λe=>by
       rcases tC i c' ed yh o3 with h | h
       ·rcases dW.1 h with h | h
        ·cases h;exact dR (.inr rfl)
        ·have:=(t.He.2 i c' ed yh h).1;have:=aeV.1;omega
       ·omega
      rw[fR c' aeY];exact gq i c' ed yh o3 λhi=>dR (.inl hi)
     ·rw[fR i (by omega)];exact ab i hi
    ·cases ad
   ·cases ad
  | @e i o' bc k5 j2 m' v cD qx Mx My me mf aC ae y2 DN aO t=>
   have k9:o'=o:=mZ (aC.symm.trans aK);subst k9;have hw:=Hg y2 aX.ak H;refine⟨λ_=>?_,λaz=>by rw[hw]at az;cases az⟩;obtain⟨Mw,fx,MA⟩:=Mu ae;have DW:=Ut rfl cZ ae;have MB:po=db:=by rw[bY,jW (by omega),DW,kn]at ss;simpa using ss.symm
   subst MB;obtain⟨m2,aeZ,MC,MD⟩:=t.head;refine rs (λbF w'=>?_) (zv aG rJ ⟨β,aX⟩ (DN.2 D F C I M (λF' C' I' M'=>∃ bk,D.ext bk po.n/\sp o'.dst v bk F F'/\cE (dn X G pr) bk m' I' M') qj kI λbk F' C' I' M' a1 ba b4=>⟨bk,a1,ba,b4⟩));rintro⟨F',C',I',M',gw,bk,a1,ba,b4⟩;have bg:=kI.le a1;obtain⟨f1,f2⟩:=A2.ak c3 aK oU A3 (DU rfl) bg ba y0 u7;refine⟨bk,F',C',I',M',j+1,m2,gw,MA,fx,?_,b4.grow MD,f1,f2,λi c l T o3 dR=>?_,bz.Ue ab a1 aeR⟩;·rw[bY,jW (by omega),DW,show j+1-j=0+1 by omega,EQ,MC];rfl
   ·rcases tC i c l T o3 with h | h
    ·have:=(t.He.2 i c l T h).1;cases DT:bk c with
     |none=>rfl| some b=>have:=b4.iy _ _ DT;omega
    ·rw[a1 c h];exact gq i c l T o3 λhi=>dR (.inl hi)
  | @skip i eS o' bc k5 j2 cD qx Mx My me mf aC ae y2 aO t=>
   have k9:o'=o:=mZ (aC.symm.trans aK);subst k9;have hw:=Hg y2 aX.ak H;refine⟨λaz=>(by rw[hw]at az;cases az),λ_=>?_⟩;have s7:Rel X (a.put o'.dst undef) w (put o'.dst (.val undef) F) C I M:=⟨β,aX.put (x:=.val undef) rJ rfl⟩;have Hl:sp o'.dst (.t []) D F (put o'.dst (.val undef) F):=.put F (.val .undef);by_cases eG:k=2
   ·subst eG;obtain⟨Mw,fx,MA⟩:=Mu ae;have DW:=Ut rfl cZ ae;have MB:po=db:=by rw[bY,jW (by omega),DW,kn]at ss;simpa using ss.symm
    subst MB;obtain⟨m2,aeZ,MC,MD⟩:=t.head;obtain⟨f1,f2⟩:=A2.ak c3 aK oU A3 (DU rfl) (bz.le_refl D) Hl y0 u7;refine⟨D,_,C,I,M,j+1,m2,s7,MA,fx,?_,kI.grow MD,f1,f2,λi c l T o3 dR=>gq i c l T o3 λhi=>dR (.inl hi),ab⟩;rw[bY,jW (by omega),DW,show j+1-j=0+1 by omega];show(po::me)[0+1]?=some m2;rw[EQ,MC];rfl
   ·exact plain (DU rfl) (by rw[ae];exact eG) (λ_ _ _=>.inr trivial) s7 Hl
 simpa using key
end
def y3{n:Nat}:∀ {c:Code},g6 n c=true->codeOk n c=true
 | .seq x y,h=>by simp only[g6,codeOk,b']at h |-;exact⟨y3 h.1,y3 h.2⟩
 | .block _ c,h=>by simp only[g6,codeOk]at h |-;exact y3 h
 | .cond _ x y,h=>by simp only[g6,codeOk,b']at h |-;exact⟨y3 h.1,y3 h.2⟩
 | .loop c,h=>by simp only[g6,codeOk]at h |-;exact y3 h
 | .region _ ops _,h=>h| .scope c,h=>rfl| .rangeFunc ..,h=>rfl| .skip,h | .exit _,h | .label _,h | .goto _,h | .ret,h | .refuse _,h=>rfl
def ME{n:Nat}:∀ {c:Code} {l:Nat} {r:Code},g6 n c=true->findLabel c l=some r->g6 n r=true
 | .seq x y,l,r,h,av=>by
  simp only[g6,b']at h;simp only[findLabel]at av;split at av;·rename_i bc af;cases av;simp only[g6,b'];exact⟨ME h.1 af,h.2⟩
  ·exact ME h.2 av
 | .label ed,l,r,h,av=>by
  simp only[findLabel]at av;split at av;·cases av;rfl
  ·cases av
 | .skip,_,_,_,av | .exit _,_,_,_,av | .goto _,_,_,_,av | .ret,_,_,_,av | .refuse _,_,_,_,av | .block _ _,_,_,_,av | .cond _ _ _,_,_,_,av | .loop _,_,_,_,av | .scope _,_,_,_,av | .region _ _ _,_,_,_,av | .rangeFunc _ _ _ _,_,_,_,av=>by simp[findLabel]at av
def tE(P:Program):Prop:=∀ (g:Nat) (fn:Func) (c:Code),P.funcs[g]?=some fn->fn.body=some c->g6 fn.ntmps c=true/\(fn.name == "runtime.NumGoroutine")=false
def ae0(P:Program):Bool:=P.funcs.toList.all λfn=>match fn.body with
 |some c=>g6 fn.ntmps c && !(fn.name == "runtime.NumGoroutine")
 |none=>true
def ae1(h:ae0 P=true):tE P:=λg fn c az ah=>by have aa:=fL.1 h fn (by rw[<-Array.mem_def];exact Array.mem_of_getElem? az);simp only[ah,b',qC]at aa;exact aa
def u9(Y:fJ):Prop:=∀ g vs m v m',Y.pr g vs m=some (v,m')->∀ (D:bz) (I:aM) (M:List aE) (us:List Value),bx D vs us->cE Y D m I M->Spec Y.P g us I M λr I' M'=>∃ bk,D.ext bk m.n/\aH bk v r/\cE Y bk m' I' M'
def w2:qA->Exit
 | .normal=>.normal| .exit id=>.exit id| .goto l=>.goto l| .ret=>.ret
def iz(Y:fJ)(n B:Nat)(ay:World)(dj:aM)(foot:List Nat)(ro:Option Nat):cB:=⟨Y.P,Y.E,List.range n,n,B,ay,dj,foot,ro⟩
def iz.fs{Y:fJ}{n B:Nat}{ay:World}{dj:aM}{foot:List Nat}{ro:Option Nat}:∀ d,d<(iz Y n B ay dj foot ro).n->(iz Y n B ay dj foot ro).fs.contains d=true:=λd aj=>by have eJ:d<n:=aj;show(List.range n).contains d=true;simpa using eJ
def y4(Y:fJ)(f:Nat):Prop:=∀ fW n c ak m ex cD m',ku Y f fW n c ak m=some (ex,cD,m')->g6 n c=true->∀ B ay dj foot ro D0 n0 a w,(fW=true->ro=none)->j6 (iz Y n B ay dj foot ro) Y.G Y.pr D0 n0 ak m a w -> c.wpIn (f' (iz Y n B ay dj foot ro)) 0 Y.P (λe a w=>e=w2 ex/\j6 (iz Y n B ay dj foot ro) Y.G Y.pr D0 n0 cD m' a w) a w
def MF{α:Type}:∀ (n k:Nat),(a8.bare n:a8 α).get k=none
 |0,k=>rfl
 |n+1,k=>by
  rw[a8.bare,a8.Ds];cases Nat.beq k 0 with
  |true=>rfl
  |false=>
   cases Nat.beq (k%2) 1 with
   |true=>exact MF n _| false=>exact MF n _
section
variable{X:cB}{G:GT}{pr:kt}{D:bz}{m:be}{F:Fr}{ak:a8 ao}{C:dp}{I:aM}{M:List aE}
def MG(bf:om D F ak)(hm:cE (dn X G pr) D m I M):∀ {bb:List ResultVar} {vs:List ao} {K:List Value->Prop},wI (dn X G pr) ak m.t bb=some vs->(∀ us,bx D vs us->K us)->nd X F C I M bb K
 |[],vs,K,h,ae=>by simp only[wI]at h;cases h;exact ae [] .nil
 | .tmp t::l,vs,K,h,ae=>by
  simp only[wI]at h;split at h;·rename_i v qx aa ad;cases h;obtain⟨u,aA,a1⟩:=(show fm D (cR F (.tmp t)) v from bf t v aa).cY;unfold nd;rw[aA];exact MG bf hm ad λus fh=>ae _ (.cons a1 fh)
  ·cases h
 | .cell t ty::l,vs,K,h,ae=>by
  simp only[wI]at h;split at h
  ·rename_i x i qx aa ad al;split at h
   ·rename_i v ag;cases h;have u0:∀ q,x≠.b q:=λq e=>by subst e;cases ag
    obtain⟨u,aA,a1⟩:=fm.tu (bf t x aa:fm D (cR F (.tmp t)) x) u0;obtain⟨aV,ed,A5,rfl,bB,av,aO⟩:=tv hm a1 ag;have mL:X.E ty=some i:=ad;have dD:cR F (.tmp t)=.val (.pointer (some aV)):=aA;unfold nd;rw[dD,mL];exact⟨A5,bB,MG bf hm al λus fh=>ae _ (.cons (G2 aO av) fh)⟩
   ·cases h
  ·cases h
end
def Uv(aG:cw Y.P Y.E)(bf:tE Y.P)(k7:u9 Y)(au:y4 Y f){m:be}{v:ao}{fn:Func}{c:Code}(az:Y.P.funcs[g]?=some fn)(ah:fn.body=some c)(bg:args.length<=fn.ntmps){ak cD:a8 ao}(t':∀ t w,ak.get t=some w->args[t]?=some w){db:be}(hex:ex=.normal\/ex=.ret)(h:ku Y f true fn.ntmps c ak m=some (ex,cD,db)){vs:List ao}(af:wI Y cD db.t fn.results.toList=some vs)
  (ag:v=Tj vs) (hu:bx D args us) (hm:cE Y D m I M):sN Y.P g us I M λr I' M'=>∃ bk,D.ext bk m.n/\aH bk v r/\cE Y bk db I' M':=by
 obtain⟨bo,nN⟩:=bf g fn c az ah;refine IP (List.range fn.ntmps) aG az ah nN ?_ λB ay a w aX=>?_
 ·rw[b'];exact⟨y3 bo,Av (by rw[hu.len];exact bg)⟩
 ·have ae2:om D (ue us) ak:=λt w hw=>by obtain⟨x,aa,ad⟩:=hu.get (t' t w hw);refine .inl ⟨x,?_,ad⟩;simp only[ue,aa]
  have hL:j6 (iz Y fn.ntmps B ay I (M.map (·.num)) none) Y.G Y.pr D m.n ak m a w:=⟨D,_,_,I,M,aX,ae2,hm,bz.m1,cI _⟩;refine wpIn_mono (au _ _ _ _ _ _ _ _ h bo B ay I (M.map (·.num)) none D m.n a w (λ_=>rfl) hL) ?_;rintro e bF w'⟨rfl,bk,F',C',I',M',s7,my,nY,ab,aJ⟩;have CR:∀ yW,yW=.normal\/yW=.ret->sU (iz Y fn.ntmps B ay I (M.map (·.num)) none) fn.results.toList (λr I' M'=>∃ bk,D.ext bk m.n/\aH bk v r/\cE Y bk db I' M') yW F' C' I' M':=λyW he=>by
   have A6:=MG (X:=iz Y fn.ntmps B ay I (M.map (·.num)) none) (G:=Y.G) (pr:=Y.pr) (C:=C') my nY af (K:=λvs=>match vs with
    |[si]=>sT (M.map (·.num)) I' M' ((λr I' M'=>∃ bk,D.ext bk m.n/\aH bk v r/\cE Y bk db I' M') si)
    |vs=>sT (M.map (·.num)) I' M' ((λr I' M'=>∃ bk,D.ext bk m.n/\aH bk v r/\cE Y bk db I' M') (.tuple vs.toArray))) λA5 fh=>by
     clear af
     match vs,A5,fh,ag with
     |[],A5,fh,ag=>rw[fh.lQ];refine⟨I',M',.refl,bk,ab,?_,nY⟩;rw[ag];exact .G1 .nil| [v1],A5,fh,ag=>obtain⟨x,xs,aa,ad,rfl⟩:=fh.ji;rw[ad.lQ];refine⟨I',M',.refl,bk,ab,?_,nY⟩;rw[ag];exact aa
     |v1::v2::vs,A5,fh,ag=>obtain⟨x,xs,aa,ad,rfl⟩:=fh.ji;obtain⟨y,ys,al,aL,rfl⟩:=ad.ji;refine⟨I',M',.refl,bk,ab,?_,nY⟩;rw[ag];exact .G1 fh
   rcases he with rfl | rfl<;>exact A6
  rcases hex with rfl | rfl;·exact⟨F',C',I',M',s7,CR _ (.inl rfl)⟩
  ·exact⟨F',C',I',M',s7,CR _ (.inr rfl)⟩
def Spec.lT{args:List Value}{p q:Value->aM->List aE->Prop}(h:Spec P f args I M p)(ae:∀ v I' M',p v I' M'->q v I' M'):Spec P f args I M q:=by
 rcases h with⟨aa,ad⟩ | h
 ·refine .inl ⟨aa,λw hw=>?_⟩;refine(ad w hw).mono ?_;rintro e w'⟨v,I',M',aA,a0,bY,dE⟩;exact⟨v,I',M',aA,ae _ _ _ a0,bY,dE⟩
 ·refine .inr λw hw=>?_;obtain⟨v,w',I',M',aA,a0,bY,dE⟩:=h w hw;exact⟨v,w',I',M',aA,ae _ _ _ a0,bY,dE⟩
section
variable{Y:fJ}{D:bz}{m m':be}{I:aM}{M:List aE}
def Uw(aG:cw Y.P Y.E)(bf:tE Y.P)(k7:u9 Y)(au:y4 Y f){v:ao}(h:GR Y (ku Y f) g args m=some (v,m'))(hu:bx D args us)(hm:cE Y D m I M) :
  sN Y.P g us I M λr I' M'=>∃ bk,D.ext bk m.n/\aH bk v r/\cE Y bk m' I' M':=by
 unfold GR at h;obtain⟨fn,az,aa⟩:=bW h;obtain⟨c,ah,ad⟩:=bW aa;obtain⟨bg,al⟩:=e4 ad;obtain⟨ak,a1,ba⟩:=a8.uY args (a8.bare 12) 0;rw[a1]at al;have t':∀ t w,ak.get t=some w->args[t]?=some w:=λt w hw=>by
  rcases ba t w hw with⟨_,h⟩ | ⟨_,h⟩;·simpa using h
  ·rw[MF]at h;cases h
 unfold Tk at al;split at al
 ·rename_i cD db ab;unfold GQ at al;obtain⟨vs,af,aL⟩:=bW al;cases aL;exact Uv aG bf k7 au az ah (bH bg) t' (.inl rfl) ab af rfl hu hm
 ·rename_i cD db ab;unfold GQ at al;obtain⟨vs,af,aL⟩:=bW al;cases aL;exact Uv aG bf k7 au az ah (bH bg) t' (.inr rfl) ab af rfl hu hm
 ·cases al
def Ux(aG:cw Y.P Y.E)(bf:tE Y.P)(k7:u9 Y)(au:y4 Y f){v:ao}(h:wJ Y (ku Y f) g args m=some (v,m'))(hu:bx D args us)(hm:cE Y D m I M) :
  Spec Y.P g us I M λr I' M'=>∃ bk,D.ext bk m.n/\aH bk v r/\cE Y bk m' I' M':=by
 unfold wJ at h;cases aO:Y.pr g args m with
 |none=>rw[aO]at h;exact .inl (Uw aG bf k7 au h hu hm)| some p=>rw[aO]at h;have bq:some p=some (v,m'):=h;cases bq;exact k7 g args m v m' aO D I M us hu hm
def cg.kept{a:Act}{W:World}{C:dp}(h:cg X β a w F C I' M')(aa:X.ay=W)(ad:X.B=W.heap.size)(al:X.dj=dj)(aL:X.foot=M0.map (·.num)):Kept dj M0 W I' M' w where
 le:=by rw[<-al];exact h.g9
 ry b o ah:=by
  rcases h.gT b o ah with bG | bG;·exact .inl (by rw[<-al];exact bG)
  ·exact .inr (by rw[<-ad];exact bG)
 sM x ab:=by
  rcases h.own x ab with bG | bG;·rw[aL]at bG;obtain⟨y,aD,e⟩:=cG.1 bG;exact .inl ⟨y,aD,e⟩
  ·exact .inr (by rw[<-ad];exact bG)
 dA b ah aJ:=by rw[<-aa];refine h.dA b (by rw[ad];exact ah) λhm=>?_;rw[aL]at hm;obtain⟨y,aD,e⟩:=cG.1 hm;exact aJ y aD e
 out:=by rw[<-aa];exact h.out
 sz:=by rw[<-ad];exact h.sz
def Uy{R:Type}:∀ {ps:List Nat} {args:List ao} {k5:a8 ao} {K:a8 ao->Option R} {r:R} {us:List Value} {tmps:Array Value},AN ps args k5 K=some r->bx D args us->(∀ t∈ps,t<tmps.size)->(∀ t v,k5.get t=some v->aH D v (tmps.getD t undef)) -> ∃ eP,K eP=some r/\us.length=ps.length/\((ps.zip us).foldl (λ(tmps:Array Value) (p:Nat×Value)=>tmps.setIfInBounds p.1 p.2) tmps).size=tmps.size /\ ∀ t v,eP.get t=some v->aH D v (((ps.zip us).foldl (λ(tmps:Array Value) (p:Nat×Value)=>tmps.setIfInBounds p.1 p.2) tmps).getD t undef)
 |[],[],k5,K,r,us,tmps,h,hu,aO,ay=>by have:=hu.lQ;subst this;exact⟨k5,h,rfl,rfl,ay⟩
 |[],_::_,k5,K,r,us,tmps,h,hu,aO,ay=>by simp[AN]at h
 |_::_,[],k5,K,r,us,tmps,h,hu,aO,ay=>by simp[AN]at h
 |t0::ps,tF::args,k5,K,r,us,tmps,h,hu,aO,ay=>by
  obtain⟨x,xs,a1,ba,rfl⟩:=hu.ji;simp only[AN]at h;obtain⟨eP,aa,ad⟩:=a8.mX (some tF) k5 t0;rw[aa]at h;have aW:=aO t0 (by simp);obtain⟨st,al,aL,bG,cr⟩:=Uy (tmps:=tmps.setIfInBounds t0 x) h ba (λt aw=>by simpa using aO t (by simp[aw])) λt v aw=>by
   rw[m9,zk];rcases ad t v aw with⟨rfl,e⟩ | ⟨bs,ax⟩;·have:=(mZ e);subst this;simp only[pF,aW];exact a1
   ·rw[ca (pE bs),<-m9];exact ay t v ax
  exact⟨st,al,by simp[aL],by simpa using bG,cr⟩
def j5.Hm{a:Loc}{ak:a8 ao}(h:j5 D E M a (.loop b n ak ps et body)):∃ L,(⟨a.b,.loop L⟩:aE)∈M/\Tt D b n ak ps et body L:=by
 cases h with
 |loop L aa ad=>exact⟨L,aa,ad⟩
def j5.ae3{a:Loc}{c:Code}{ak:a8 ao}(h:j5 D E M a (.done c n ak ps et body)):∃ L,(⟨a.b,.loop L⟩:aE)∈M/\L.state=.done/\L.pending=some c:=by
 cases h with
 |done L aa ad al=>exact⟨L,aa,ad,al⟩
def cE.swap(h:cE Y D m I M){bj:a8 eA}{l:Nat}{c1 aA:eA}{o o':Obj}{Mr:List aE}(ax:m.t.get l=some c1)(aY:D l=some gi)(a3:M.Perm (⟨gi.b,o⟩::Mr))(aw:∀ id e,bj.get id=some e->(id=l/\some aA=some e)\/(id≠l/\m.t.get id=some e))
  (he:j5 D Y.E (⟨gi.b,o'⟩::Mr) gi aA):cE Y D ⟨bj,m.n⟩ I (⟨gi.b,o'⟩::Mr):=by
 refine h.step (λid e hi=>(aw id e hi).imp (λq=>⟨q.1,mZ q.2⟩) λq=>q) aY (bz.le_refl D) (λ_ _=>rfl) h.iy (λ_ _ h=>h) (λid e bF bs hi oq x ab aJ=>?_) he λid e bF bs hi oq ah=>bs (h.inj _ _ _ _ _ _ hi ax oq aY ah);rcases dW.1 (a3.mem_iff.1 ab)with rfl | ab
 ·exact(bs (h.inj _ _ _ _ _ _ hi ax oq aY aJ.symm)).elim
 ·exact lO _ ab
end
section
variable{Y:fJ}{D:bz}{m m':be}{I:aM}{M:List aE}
def ae4(au:y4 Y f){l:Nat}{v:ao}(h:LC (ku Y f) l args m=some (v,m'))(av:D l=some gi)(hu:bx D args us)(hm:cE Y D m I M) :
  zJ Y.P gi.b us I M λr I' M'=>∃ bk,D.ext bk m.n/\aH bk v r/\cE Y bk m' I' M':=by
 unfold LC at h;split at h
 ·rename_i n k5 ps et body ax;obtain⟨L,a3,ek⟩:=(hm.hC _ _ _ ax av).Hm;intro W hZ;have Cd:W.heap[gi.b]?=some (.loop L):=hZ.m _ a3;have hL:L.state=.ready:=ek.aN;have s0:∀ t∈ps,t<L.tmps.size:=λt aw=>by rw[ek.sz];exact ek.op t (by rw[ek.ps];exact aw)
  obtain⟨eP,aa,cu,cx,Uz⟩:=Uy (tmps:=L.tmps) h hu s0 ek.ak;have Ad:L.params.size=ps.length:=by rw[<-ek.ps];simp
  refine⟨_,_,_,_,run_yield Cd (by rw[Ad];simpa using cu),?_⟩;have Ce:(L.params.zip us.toArray).foldl (λtmps (x:Nat×Value)=>match x with | (t,a)=>tmps.setIfInBounds t a) L.tmps=(ps.zip us).foldl (λ(tmps:Array Value) (p:Nat×Value)=>tmps.setIfInBounds p.1 p.2) L.tmps:=by rw[<-Iw,<-ek.ps];simp
  rw[Ce];generalize bl:(ps.zip us).foldl (λ(tmps:Array Value) (p:Nat×Value)=>tmps.setIfInBounds p.1 p.2) L.tmps=T at Uz cx;rw[ek.et,ek.body];have mg:g6 n et=true:=by rw[<-ek.et];exact ek.yc
  have Hb:g6 n body=true:=by rw[<-ek.body];exact ek.mI
  refine roundIn_of_wpIn (F:=Fence.wide) (n:=0) trivial ?_;let s8:cB:=iz Y n W.heap.size W I (M.map (·.num)) (some gi.b)
  have BQ:cg s8 (λ_=>0) { tmps:=T,defers:=[] } W (λt=>.val (T.getD t undef)) (λ_=>none) I M:={
   size:=cx.trans ek.sz
   defers:=⟨[],rfl,zm,λr af=>by cases af⟩
   holds:=hZ
   ak:=λt=>rfl
   bR:=λs cs ar=>by cases ar
   inj:=λs bP aa=>by simp at aa
   g9:=λb o ah=>ah
   gT:=λb o ah=>.inl ah
   own:=λx ab=>.inl (cG.2 ⟨x,ab,rfl⟩)
   dA:=λb ah az=>rfl
   out:=.refl _
   sz:=cI _
   eI:=λx ab=>by
    obtain⟨y,aD,rfl⟩:=cG.1 ab;exact(j9.1 (hZ.m y aD)).1 }
  unfold Tm at aa;split at aa
  ·rename_i st m2 ae5;have fc:j6 s8 Y.G Y.pr D m.n eP m { tmps:=T,defers:=[] } W:=⟨D,_,_,I,M,⟨_,BQ⟩,λt v ag=>.val (Uz t v ag),hm,bz.m1,cI _⟩;refine wpIn_mono (au _ _ _ _ _ _ _ _ ae5 mg _ _ _ _ _ D m.n _ _ (λe=>by cases e) fc) ?_;rintro e cf h4⟨rfl,MH,UA,UB,eE,dB,⟨UC,oY⟩,MI,uw,A4,lR⟩;have uC:MH l=some gi:=by rw[A4 l (hm.iy _ _ av)];exact av
   have ad:LA (ku Y f) l n body (m2.t.get l) st m2=some (v,m'):=aa;unfold LA at ad;split at ad
   ·rename_i hB ae6 ae7 ae8 LB km;obtain⟨y5,UD,tG⟩:=(uw.hC _ _ _ km uC).Hm;obtain⟨a5,post,cZ⟩:=sc UD;have kJ:dB.Perm (⟨gi.b,.loop y5⟩::(a5++post)):=by rw[cZ];exact nu
    have UE:h4.heap[gi.b]?=some (.loop y5):=oY.holds.m _ UD;have ae9:=(j9.1 UE).1;refine⟨_,run_beginRound UE tG.aN,?_⟩;obtain⟨t3,al,aL⟩:=a8.mX (some (eA.loop true hB ae6 ae7 ae8 LB)) m2.t l;rw[al]at ad;have afa:cg s8 UC cf (h4.putObj gi.b (.loop { y5 with state:=.busy })) UA UB eE (⟨gi.b,.loop { y5 with state:=.busy }⟩::(a5++post)):=
     (oY.hs (.perm kJ .refl)).swap (by simp) (zA ae9) (λb ah=>lh ah) (EX _ _ _)
    have tH:cE Y MH ⟨t3,m2.n⟩ eE (⟨gi.b,.loop { y5 with state:=.busy }⟩::(a5++post)):=uw.swap km uC kJ aL (.loop { y5 with state:=.busy } (by simp) ⟨rfl,tG.nX,tG.sz,tG.ak,tG.ps,tG.et,tG.body,tG.yc,tG.mI,tG.op⟩);unfold Tl at ad;obtain⟨⟨ex,al6,Hn⟩,C9,bG⟩:=bW ad;have vO:j6 s8 Y.G Y.pr D m.n st ⟨t3,m2.n⟩ cf (h4.putObj gi.b (.loop { y5 with state:=.busy })):=⟨MH,UA,UB,eE,_,⟨UC,afa⟩,MI,tH,A4,lR⟩;refine wpIn_mono (au _ _ _ _ _ _ _ _ C9 Hb _ _ _ _ _ D m.n _ _ (λe=>by cases e) vO) ?_;rintro e gl iL⟨rfl,UF,afb,afc,qJ,pP,⟨afd,Ho⟩,al7,DX,UG,UH⟩;have UI:UF l=some gi:=by rw[UG l (hm.iy _ _ av)];exact av
    have cr:Lz l (Hn.t.get l) (zL ex) Hn=some (v,m'):=bG;unfold Lz at cr;split at cr
    ·rename_i UJ UK UL UM UN wh;obtain⟨MJ,Hp,w3⟩:=(DX.hC _ _ _ wh UI).Hm;obtain⟨UO,UP,afe⟩:=sc Hp;have UQ:pP.Perm (⟨gi.b,.loop MJ⟩::(UO++UP)):=by rw[afe];exact nu
     have UR:iL.heap[gi.b]?=some (.loop MJ):=Ho.holds.m _ Hp;have aff:=(j9.1 UR).1;obtain⟨t5,eM,fo⟩:=a8.mX (some (bh (zL ex) (eA.loop false UJ UK UL UM UN) λc=>eA.done c UJ UK UL UM UN)) Hn.t l;rw[eM]at cr;cases cr;have fin:∀ jump,zL ex=jump->∃ si w',(Instr.endRound gi.b jump).run Y.P iL=.ok si w'/\∃ r I' M',Ending.returned si=.returned r/\(∃ bk,D.ext bk m.n/\aH bk (.b (zL ex).isNone) r/\cE Y bk ⟨t5,Hn.n⟩ I' M')/\dT I' M' w'/\Kept I M W I' M' w':=by
      rintro jump ai;let Hq:Loop:={ MJ with state:=if jump.isNone then .ready else .done,pending:=jump }
      have US:cg s8 afd gl (iL.putObj gi.b (.loop Hq)) afb afc qJ (⟨gi.b,.loop Hq⟩::(UO++UP)):=
       (Ho.hs (.perm UQ .refl)).swap (by simp) (zA aff) (λb ah=>lh ah) (EX _ _ _)
      refine⟨_,_,run_endRound jump UR,_,qJ,_,rfl,⟨UF,UG,?_,DX.swap wh UI UQ fo ?_⟩,US.holds,US.kept rfl rfl rfl rfl⟩;·rw[ai];simp[aH]
      ·rw[ai];cases jump with
       |none=>exact .loop Hq (by simp) ⟨rfl,rfl,w3.sz,w3.ak,w3.ps,w3.et,w3.body,w3.yc,w3.mI,w3.op⟩| some c=>exact .done Hq (by simp) rfl rfl
     cases ex with
     |normal=>exact fin none rfl| exit id=>exact fin _ rfl| goto t=>exact fin _ rfl| ret=>exact fin _ rfl
    ·cases cr
   ·cases ad
  ·cases aa
 ·cases h
end
section
variable{Y:fJ}
def afg(aG:cw Y.P Y.E)(bf:tE Y.P)(k7:u9 Y)(au:y4 Y f):DL Y (GS Y (ku Y f)):=λaem l m v m' h D I M u us vx fh hm=>by
 unfold GS at h;split at h
 ·rename_i g cb cs;simp only[aH]at vx;obtain⟨vs,ws,aa,ad,rfl⟩:=vx;refine .inl ⟨g,_,_,rfl,?_⟩;have:=Ux aG bf k7 au h (aa.append (fh.append ad)) hm;simpa using this
 ·rename_i q;simp only[aH]at vx;obtain⟨gi,aa,rfl⟩:=vx;exact .inr ⟨gi.b,rfl,ae4 au h aa fh hm⟩
 ·cases h
def j6.world{ak:a8 ao}{m:be}{a:Act}(h:j6 X G pr D0 n0 ak m a w):∃ D F β,(∀ t,eb β (F t) (a.tmps.getD t undef))/\om D F ak:=by obtain⟨D,F,C,I,M,⟨β,aX⟩,bf,_⟩:=h;exact⟨D,F,β,aX.ak,bf⟩
def j6.eval{ak:a8 ao}{m:be}{a:Act}(h:j6 X G pr D0 n0 ak m a w)(ab:cQ ak x=some (.b b)):a.eval x=.bool b:=by obtain⟨D,F,β,aa,ad⟩:=h.world;obtain⟨u,aA,a1⟩:=(ad.op [x]).bt (x:=x) (by simp) ab;rw[cS aa aA,a1.bool]
def fm.ok{x:dd}{v:ao}(h:fm D x v)(ab:eb β x u):aH D v u:=by
 rcases h with⟨y,rfl,h⟩ | ⟨q,rfl,rfl⟩
 ·have:u=y:=ab;subst this;exact h
 ·have:u=.bool q:=ab;subst this;simp[aH]
def afh(aG:cw Y.P Y.E)(bf:tE Y.P)(k7:u9 Y)(au:y4 Y f){fW:Bool}{ps:Array Tmp}{ak cD:a8 ao}{m m':be}(h:LF Y (ku Y f) fW n (cQ ak x) ps.toList et body ak m=some (ex,cD,m'))(bo:g6 n (.rangeFunc x ps et body)=true){B:Nat}{ay:World}{foot:List Nat}{ro:Option Nat}{a:Act}(jN:fW=true->ro=none)(ar:j6 (iz Y n B ay dj foot ro) Y.G Y.pr D0 n0 ak m a w) :
  (Code.rangeFunc x ps et body).wpIn (f' (iz Y n B ay dj foot ro)) 0 Y.P (λe a w=>e=w2 ex/\j6 (iz Y n B ay dj foot ro) Y.G Y.pr D0 n0 cD m' a w) a w:=by
 unfold LF at h;split at h
 ·rename_i g cap ab;have Jc:=jN rfl;subst Jc;obtain⟨D,F,C,I,M,⟨β,aX⟩,MK,hm,ga,pR⟩:=ar;obtain⟨u,aA,a1⟩:=(MK.op [x]).bt (x:=x) (by simp) ab;simp only[aH]at a1;obtain⟨vs,ws,aa,ad,rfl⟩:=a1;have hr:=aa.lQ;subst hr;simp only[g6,b']at bo;obtain⟨t1,al,aL⟩:=DC h;refine wpIn_rangeFunc λfn _=>?_;let hd:Loop:={ state:=.ready,pending:=none,fn:=fn,tmps:=a.tmps,params:=ps,assign:=et,body:=body,defers:=w.heap.size }
  let l:=w.heap.size+1
  let kV:World:=(w.alloc (.deferred (some []))).alloc (.loop hd)
  have xZ:=aX.PP.nb (.loop hd);have av:(w.alloc (.deferred (some []))).heap.size=l:=by simp[l]
  rw[av]at xZ;have afi:∀ q∈M,q.num≠l:=λq aK e=>by have:=aX.holds.lt aK;omega
  have UT:cE Y (D.set m.n ⟨l,0,0⟩) ⟨t1,m.n+1⟩ I (⟨l,.loop hd⟩::M):=hm.new (a:=⟨l,0,0⟩) al afi (.loop hd (by simp) ⟨rfl,rfl,aX.size,λt v aw=>((MK t v aw).ok (aX.ak t)).mono (bz.wQ _ hm.fresh),rfl,rfl,rfl,bo.1,bo.2.1,λt aw=>bH (fL.1 bo.2.2 t aw)⟩);unfold Tp at aL;obtain⟨⟨v,m2⟩,kW,bG⟩:=bW aL;have UU:=bz.wQ (D:=D) ⟨l,0,0⟩ hm.fresh;have k1:bx (D.set m.n ⟨l,0,0⟩) (.y m.n::cap) (.func (.yield l) #[] #[]::ws):=.cons (by simp only[aH];exact⟨_,bz.nD _ _ _,rfl⟩) (ad.mono UU);obtain⟨nM,xM⟩:=Uw aG bf k7 au kW k1 UT;have afj:=xM kV xZ.holds;have a0:=cS aX.ak aA;refine⟨l,[tY w.heap.size],kV,{ target:=.fn (.func g) ws.toArray,args:=#[.func (.yield l) #[] #[]] },kV,g,(.func (.yield l) #[] #[]::ws).toArray,kV,?_,?_,λ_ _=>trivial,?_,(λh=>by cases h),?_⟩;·show(Instr.enterLoop fn a.tmps ps et body none).run Y.P w=_;exact run_enterLoop_outer fn a.tmps ps et body
  ·show(Deferred.ofValue (a.eval x) (#[Operand.const (.func (.yield l) #[] #[])].map a.eval)).run Y.P kV=_;rw[a0];simp[Deferred.ofValue,Act.eval]
  ·simp only[invoke];rw[show #[Value.func (.yield l) #[] #[]]++ws.toArray=(.func (.yield l) #[] #[]::ws).toArray from by apply fZ;simp];exact nM _ _
  ·refine(II (X:=iz Y n B ay dj foot none) afj _).mono ?_;rintro e mF⟨r,ki,s9,rfl,⟨DY,ML,CU,tH⟩,UW,tI⟩;have pQ:=xZ.after (Mr:=[]) (by simp) UW tI;rw[ee]at pQ;have x0:DY m.n=some ⟨l,0,0⟩:=by rw[ML m.n (Bw _)];exact bz.nD _ _ _
   have afk:=UT.le ML;have afl:om DY F ak:=λt v aw=>(MK t v aw).mono (bz.le_trans UU afk);have afm:D0.ext DY n0:=λi hi=>by
    have fq:i<m.n+1:=by
     have:i<m.n:=by omega
     omega
    rw[ML i fq];show(if i=m.n then _ else D i)=D0 i;rw[ca (by omega)];exact ga i hi
   have fin:∀ (L:Loop) (t4:a8 eA) (j:Option Code),(⟨l,.loop L⟩:aE)∈s9->L.state≠.busy->L.pending=j->(∃ c1,m2.t.get m.n=some c1)->(∀ id e,t4.get id=some e->(id=m.n/\(none:Option eA)=some e)\/(id≠m.n/\m2.t.get id=some e))->n0<=m2.n ->
     ∃ iL,(Instr.endLoop l).run Y.P mF=.ok j iL/\j6 (iz Y n B ay dj foot none) Y.G Y.pr D0 n0 ak ⟨t4,m2.n⟩ { a with defers:=[tY w.heap.size]++a.defers } iL:=by
    rintro L t4 j ek ah aO⟨c1,afn⟩Kh UH;have afo:mF.heap[l]?=some (.loop L):=UW.m _ ek;obtain⟨a5,post,cZ⟩:=sc ek;have kJ:s9.Perm (⟨l,.loop L⟩::(a5++post)):=by rw[cZ];exact nu
    have jc:∀ i en,t4.get i=some en->i≠m.n/\m2.t.get i=some en:=λi en hi=>by
     rcases Kh i en hi with⟨_,fo⟩ | fo;·cases fo
     ·exact fo
    have Ho:=(pQ.hs (.perm kJ .refl)).Cc (o':=.loop { L with state:=.exhausted });refine⟨_,(by rw[<-aO];exact run_endLoop afo ah),DY,F,C,ki,a5++post,⟨β,Ho⟩,afl,⟨λi en b hi hn=>?_,λi fK en wY b ij hi ct=>tH.inj i fK en wY b ij (jc i en hi).2 (jc fK wY ct).2,tH.iy,tH.oj⟩,afm,UH⟩;refine(tH.hC i en b (jc i en hi).2 hn).mono (bz.le_refl DY) λq aK aJ=>?_;rcases dW.1 (kJ.mem_iff.1 aK)with rfl | aK;·exact((jc i en hi).1 (tH.inj _ _ _ _ _ _ (jc i en hi).2 afn hn x0 aJ.symm)).elim
    ·exact aK
   have lR:∀ {c1:eA},m2.t.get m.n=some c1->n0<=m2.n:=λ_=>by have:=tH.iy _ _ x0;omega
   have cr:(match m2.t.get m.n with
    |some (.loop false ..)=>m2.t.lP none m.n λt=>some (qA.normal,ak,(⟨t,m2.n⟩:be))
    |some (.done c ..)=>bh (LD c) none λex=>m2.t.lP none m.n λt=>some (ex,ak,⟨t,m2.n⟩)
    |_=>none)=some (ex,cD,m'):=bG
   split at cr;·rename_i Rx afp afq afr afs n5;obtain⟨L,ek,UX⟩:=(tH.hC _ _ _ n5 x0).Hm;obtain⟨t4,eM,fo⟩:=a8.mX (none:Option eA) m2.t m.n;rw[eM]at cr;cases cr;obtain⟨iL,fj,rP⟩:=fin L t4 none ek (by rw[UX.aN];simp) UX.nX ⟨_,n5⟩ fo (lR n5);exact⟨none,iL,fj,rfl,rP⟩
   ·rename_i c Rx afp afq afr afs n5;obtain⟨L,ek,hL,MM⟩:=(tH.hC _ _ _ n5 x0).ae3;obtain⟨yW,hex,cr⟩:=bW cr;obtain⟨t4,eM,fo⟩:=a8.mX (none:Option eA) m2.t m.n;rw[eM]at cr;cases cr;obtain⟨iL,fj,rP⟩:=fin L t4 (some c) ek (by rw[hL];simp) MM ⟨_,n5⟩ fo (lR n5);refine⟨some c,iL,fj,?_⟩;unfold LD at hex;split at hex
    ·cases hex;exact wpIn_exit ⟨rfl,rP⟩
    ·cases hex;exact wpIn_goto ⟨rfl,rP⟩
    ·cases hex;exact wpIn_ret ⟨rfl,rP⟩
    ·cases hex
   ·cases cr
 ·cases h
end
section
variable{Y:fJ}
def UY{next:Act->World->Prop}{a:Act}(h:Q (w2 ex) a w)(bs:ex≠.normal):Exit.then next Q (w2 ex) a w:=by cases ex<;>first | exact(bs rfl).elim | exact h
def aft(aG:cw Y.P Y.E)(bf:tE Y.P)(k7:u9 Y)(hl:Y.P.follows .mixedOrders=true):∀ f k,k<=f->y4 Y k:=by
 intro f
 induction f with
 |zero=>
  intro k ae fW n c ak m ex cD m' h;have:k=0:=by omega
  subst this;cases h
 |succ f aR=>
  intro k ae;by_cases C3:k<=f;·exact aR k C3
  have v5:k=f+1:=by omega
  subst v5;have au:=aR f (cI _);have kW:=afg aG bf k7 au;intro fW n c ak m ex cD m' h bo B ay dj foot ro D0 n0 a w jN ar;have aa:LG Y f (ku Y f) fW n c ak m=some (ex,cD,m'):=h;have ja:=@iz.fs Y n B ay dj foot ro;unfold LG at aa;cases c with
  |skip=>cases aa;exact wpIn_skip ⟨rfl,ar⟩| label l=>cases aa;exact wpIn_label ⟨rfl,ar⟩| ret=>cases aa;exact wpIn_ret ⟨rfl,ar⟩| exit id=>cases aa;exact wpIn_exit ⟨rfl,ar⟩| goto l=>cases aa;exact wpIn_goto ⟨rfl,ar⟩| refuse s=>cases aa
  |seq x y=>
   simp only[g6,b']at bo;simp only[Dq]at aa;split at aa;·rename_i eP db ab;refine wpIn_seq (wpIn_mono (au _ _ _ _ _ _ _ _ ab bo.1 B ay dj foot ro D0 n0 a w jN ar) ?_);rintro e cf h4⟨rfl,fc⟩;exact au _ _ _ _ _ _ _ _ aa bo.2 B ay dj foot ro D0 n0 cf h4 jN fc
   ·rename_i dR;refine wpIn_seq (wpIn_mono (au _ _ _ _ _ _ _ _ aa bo.1 B ay dj foot ro D0 n0 a w jN ar) ?_);rintro e cf h4⟨rfl,fc⟩;exact UY ⟨rfl,fc⟩ λe=>dR cD m' (by rw[aa,e])
  |block id c=>
   simp only[g6]at bo;simp only[Tn]at aa;split at aa
   ·rename_i j eP db ab;refine wpIn_block (wpIn_mono (au _ _ _ _ _ _ _ _ ab bo B ay dj foot ro D0 n0 a w jN ar) ?_);rintro e cf h4⟨rfl,fc⟩;simp only[w2,Exit.inBlock];by_cases ai:j=id
    ·subst ai;rw[oC]at aa;have ad:some (qA.normal,eP,db)=some (ex,cD,m'):=aa;cases ad;rw[ck rfl];exact⟨rfl,fc⟩
    ·rw[g0 ai]at aa;have ad:some (qA.exit j,eP,db)=some (ex,cD,m'):=aa;cases ad;rw[ca ai];exact⟨rfl,fc⟩
   ·rename_i dR;refine wpIn_block (wpIn_mono (au _ _ _ _ _ _ _ _ aa bo B ay dj foot ro D0 n0 a w jN ar) ?_);rintro e cf h4⟨rfl,fc⟩;cases ex with
    |exit j=>exact(dR j cD m' aa).elim| normal=>exact⟨rfl,fc⟩| goto l=>exact⟨rfl,fc⟩| ret=>exact⟨rfl,fc⟩
  |cond x hH ha=>
   simp only[g6,b']at bo;simp only[To]at aa;split at aa
   ·rename_i b ab;refine wpIn_cond (ar.eval ab) ?_;cases b with
    |true=>exact au _ _ _ _ _ _ _ _ aa bo.1 B ay dj foot ro D0 n0 a w jN ar| false=>exact au _ _ _ _ _ _ _ _ aa bo.2 B ay dj foot ro D0 n0 a w jN ar
   ·cases aa
  |loop c=>
   simp only[g6]at bo;let J (k:Nat) (a:Act) (w:World):Prop:=k<=f+1/\∃ eP db,ku Y k fW n (.loop c) eP db=some (ex,cD,m')/\j6 (iz Y n B ay dj foot ro) Y.G Y.pr D0 n0 eP db a w
   refine E4 J (m:=f+1) ⟨cI _,ak,m,h,ar⟩ ?_;rintro k cf h4⟨ae,eP,db,ad,fc⟩;cases k with
   |zero=>cases ad
   |succ k=>
    have UZ:=aR k (by omega);have al:Dq (ku Y k fW n c eP db) (ku Y k fW n (.loop c))=some (ex,cD,m'):=ad;simp only[Dq]at al;split at al;·rename_i st m2 ab;refine wpIn_mono (UZ _ _ _ _ _ _ _ _ ab bo B ay dj foot ro D0 n0 cf h4 jN fc) ?_;rintro e dw kV⟨rfl,mC⟩;exact⟨k,Bw k,by omega,st,m2,al,mC⟩
    ·rename_i dR;refine wpIn_mono (UZ _ _ _ _ _ _ _ _ al bo B ay dj foot ro D0 n0 cf h4 jN fc) ?_;rintro e dw kV⟨rfl,mC⟩;exact UY ⟨rfl,mC⟩ λe=>dR cD m' (by rw[al,e])
  |region id ops afu=>
   cases afu with
   |false=>simp only[GU]at aa;obtain⟨⟨eP,db⟩,ab,ad⟩:=bW aa;cases ad;refine wpIn_region ?_;have:=Mk (X:=iz Y n B ay dj foot ro) (G:=Y.G) (pr:=Y.pr) (D0:=D0) (n0:=n0) aG ja kW ops (λe a w=>e=w2 .normal/\j6 (iz Y n B ay dj foot ro) Y.G Y.pr D0 n0 eP db a w) (λa w h=>⟨rfl,h⟩) ops.toList 0 (by simp) (E3 bo) ab ar;have fj:wpOpsIn (f' (iz Y n B ay dj foot ro)) 0 Y.P ops (λe a w=>e=w2 .normal/\j6 (iz Y n B ay dj foot ro) Y.G Y.pr D0 n0 eP db a w) (List.range' 0 ops.toList.length) a w:=this;rw[zl];simpa using fj
   |true=>simp only[GU]at aa;obtain⟨⟨eP,db⟩,ab,ad⟩:=bW aa;cases ad;exact aex (X:=iz Y n B ay dj foot ro) (G:=Y.G) (pr:=Y.pr) (D0:=D0) (n0:=n0) aG ja kW hl bo ab (λa w h=>⟨rfl,h⟩) ar
  |scope c=>
   simp only[g6]at bo;have step:∀ (k:Nat) (x:Code) (eP:a8 ao) (db:be) (cf:Act) (h4:World),g6 n x=true->Dr (ku Y f) fW n c (k+1) x eP db=some (ex,cD,m')->j6 (iz Y n B ay dj foot ro) Y.G Y.pr D0 n0 eP db cf h4 ->
     x.wpIn (f' (iz Y n B ay dj foot ro)) 0 Y.P (λe bF w'=>match e with
      | .goto l=>∃ bc st m2,findLabel c l=some bc/\Dr (ku Y f) fW n c k bc st m2=some (ex,cD,m')/\j6 (iz Y n B ay dj foot ro) Y.G Y.pr D0 n0 st m2 bF w'| e=>e=w2 ex/\j6 (iz Y n B ay dj foot ro) Y.G Y.pr D0 n0 cD m' bF w') cf h4:=λk x eP db cf h4 ab ad fc=>by
    have al:(match ku Y f fW n x eP db with
     |some (.goto l,ak,m)=>bh (findLabel c l) none λbc=>Dr (ku Y f) fW n c k bc ak m
     |r=>r)=some (ex,cD,m'):=ad
    split at al;·rename_i l st m2 he;obtain⟨bc,qI,aL⟩:=bW al;refine wpIn_mono (au _ _ _ _ _ _ _ _ he ab B ay dj foot ro D0 n0 cf h4 jN fc) ?_;rintro e dw kV⟨rfl,mC⟩;exact⟨bc,st,m2,qI,aL,mC⟩
    ·rename_i dR;refine wpIn_mono (au _ _ _ _ _ _ _ _ al ab B ay dj foot ro D0 n0 cf h4 jN fc) ?_;rintro e dw kV⟨rfl,mC⟩;cases ex with
     |goto l=>exact(dR l cD m' al).elim| exit j=>exact⟨rfl,mC⟩| normal=>exact⟨rfl,mC⟩| ret=>exact⟨rfl,mC⟩
   let J (l k:Nat) (a:Act) (w:World):Prop:=∃ bc eP db,findLabel c l=some bc/\Dr (ku Y f) fW n c k bc eP db=some (ex,cD,m')/\j6 (iz Y n B ay dj foot ro) Y.G Y.pr D0 n0 eP db a w
   cases f with
   |zero=>cases aa
   |succ n4=>
    refine PM J (wpIn_mono (step n4 c ak m a w bo aa ar) ?_) ?_
    ·intro e cf h4 he;cases e with
     |goto l=>exact⟨n4,he⟩| _=>exact he
    ·rintro l k cf h4⟨bc,eP,db,qI,ad,fc⟩;cases k with
     |zero=>cases ad
     |succ k=>
      refine⟨bc,qI,wpIn_mono (step k bc eP db cf h4 (ME bo qI) ad fc) ?_⟩;intro e dw kV he;cases e with
      |goto ed=>exact⟨k,Bw k,he⟩| _=>exact he
  |rangeFunc x ps et body=>exact afh aG bf k7 au aa bo jN ar
def reckon(aG:cw Y.P Y.E)(bf:tE Y.P)(k7:u9 Y)(hl:Y.P.follows .mixedOrders=true){m m':be}{v:ao}(h:wJ Y (ku Y f) g args m=some (v,m'))(hu:bx D args us)(hm:cE Y D m I M) : Spec Y.P g us I M λr I' M'=>∃ bk,D.ext bk m.n/\aH bk v r/\cE Y bk m' I' M':=
 Ux aG bf k7 (aft aG bf k7 hl f f (cI _)) h hu hm
end
def U0(h:dT I M w)(aa:dT I' M' w')(ad:Kept I [] w I' M' w') :
  dT I' (M'++M) w'/\Kept I M w I' (M'++M) w'/\∀ x∈M',∀ y∈M,x.num≠y.num:=by
 have aW:∀ x∈M,x.num<w.heap.size:=λx ab=>(j9.1 (h.m x ab)).1;have cV:∀ x∈M',w.heap.size<=x.num:=λx ab=>by
  rcases ad.sM x ab with⟨y,aD,_⟩ | h;·cases aD
  ·exact h
 have bs:∀ x∈M',∀ y∈M,x.num≠y.num:=λx ab y aD e=>by have:=aW y aD;have:=cV x ab;omega
 refine⟨⟨aa.i,λx ab=>?_,λx ab=>?_,?_⟩,⟨ad.le,ad.ry,λx ab=>?_,λb ah _=>ad.dA b ah (by simp),ad.out,ad.sz⟩,bs⟩
 ·rcases cO.1 ab with ab | ab
  ·exact aa.m x ab
  ·rw[ad.dA x.num (aW x ab) (by simp)];exact h.m x ab
 ·rcases cO.1 ab with ab | ab
  ·exact aa.d x ab
  ·cases he:I' x.num with
   |none=>rfl
   |some o=>
    rcases ad.ry _ _ he with al | al;·rw[h.d x ab]at al;cases al
    ·have:=aW x ab;omega
 ·rw[dc,sK];refine⟨aa.bX,h.bX,λa aY b ah e=>?_⟩;obtain⟨x,ab,rfl⟩:=cG.1 aY;obtain⟨y,aD,rfl⟩:=cG.1 ah;exact bs x ab y aD e
 ·rcases cO.1 ab with ab | ab
  ·exact .inr (cV x ab)
  ·exact .inl ⟨x,ab,rfl⟩
def Spec.frame{args:List Value}{Q:Value->aM->List aE->Prop}(h:Spec P f args I [] Q):Spec P f args I M λr I' jS=>∃ M',jS=M'++M/\(∀ x∈M',∀ y∈M,x.num≠y.num)/\(∀ b o,I b=some o->I' b=some o)/\Q r I' M':=by
 have ay:∀ {w:World},dT I M w->dT I [] w:=λhw=>⟨hw.i,by simp,by simp,by simp⟩;rcases h with⟨aa,ad⟩ | h
 ·refine .inl ⟨aa,λw hw=>?_⟩;refine(ad w (ay hw)).mono ?_;rintro e w'⟨v,I',M',aA,a0,bY,dE⟩;obtain⟨a1,ba,b4⟩:=U0 hw bY dE;exact⟨v,I',M'++M,aA,⟨M',rfl,b4,dE.le,a0⟩,a1,ba⟩
 ·refine .inr λw hw=>?_;obtain⟨v,w',I',M',aA,a0,bY,dE⟩:=h w (ay hw);obtain⟨a1,ba,b4⟩:=U0 hw bY dE;exact⟨v,w',I',M'++M,aA,⟨M',rfl,b4,dE.le,a0⟩,a1,ba⟩
mutual
def iA(k:Nat):ao->ao
 | .p id off=>.p (Nat.add id k) off| .sl id off n c=>.sl (Nat.add id k) off n c| .sx id off e n=>.sx (Nat.add id k) off e n| .m id=>.m (Nat.add id k)| .y id=>.y (Nat.add id k)| .f g l r=>.f g (ou k l) (ou k r)| .Dd t v=>.Dd t (iA k v)| .t l=>.t (ou k l)| .a l=>.a (ou k l)| .b x=>.b x| .i a n=>.i a n| .s l=>.s l| .pn=>.pn| .g n off=>.g n off| .sn=>.sn| .gs n off a c=>.gs n off a c| .so=>.so| .mn=>.mn| .fn=>.fn| .ni=>.ni
def ou(k:Nat):List ao->List ao
 |[]=>[]| v::l=>iA k v::ou k l
end
section
mutual
def A7{D0 D:bz}{k:Nat}(c3:∀ id a,D0 id=some a->D (Nat.add id k)=some a):∀ (v:ao) {u:Value},aH D0 v u->aH D (iA k v) u
 | .p id off,u,h=>by simp only[aH,iA]at h |-;obtain⟨a,aY,h⟩:=h;exact⟨a,c3 _ _ aY,h⟩
 | .sl id off n c,u,h=>by simp only[aH,iA]at h |-;obtain⟨a,aY,h⟩:=h;exact⟨a,c3 _ _ aY,h⟩
 | .sx id off e n,u,h=>by simp only[aH,iA]at h |-;obtain⟨a,aY,h⟩:=h;exact⟨a,c3 _ _ aY,h⟩
 | .m id,u,h=>by simp only[aH,iA]at h |-;obtain⟨a,aY,h⟩:=h;exact⟨a,c3 _ _ aY,h⟩
 | .y id,u,h=>by simp only[aH,iA]at h |-;obtain⟨a,aY,h⟩:=h;exact⟨a,c3 _ _ aY,h⟩
 | .f g l r,u,h=>by simp only[aH,iA]at h |-;obtain⟨vs,ws,aa,ad,h⟩:=h;exact⟨vs,ws,DZ c3 l aa,DZ c3 r ad,h⟩
 | .Dd t v,u,h=>by simp only[aH,iA]at h |-;obtain⟨x,aa,h⟩:=h;exact⟨x,A7 c3 v aa,h⟩
 | .t l,u,h=>by simp only[aH,iA]at h |-;obtain⟨x,aa,h⟩:=h;exact⟨x,DZ c3 l aa,h⟩
 | .a l,u,h=>by simp only[aH,iA]at h |-;obtain⟨x,aa,h⟩:=h;exact⟨x,DZ c3 l aa,h⟩
 | .b x,u,h=>by simpa only[aH,iA]using h
 | .i a n,u,h=>by simpa only[aH,iA]using h
 | .s l,u,h=>by simpa only[aH,iA]using h
 | .pn,u,h=>by simpa only[aH,iA]using h
 | .g n off,u,h=>by simpa only[aH,iA]using h
 | .sn,u,h=>by simpa only[aH,iA]using h
 | .gs n off a c,u,h=>by simpa only[aH,iA]using h
 | .so,u,h=>by simpa only[aH,iA]using h
 | .mn,u,h=>by simpa only[aH,iA]using h
 | .fn,u,h=>by simpa only[aH,iA]using h
 | .ni,u,h=>by simpa only[aH,iA]using h
def DZ{D0 D:bz}{k:Nat}(c3:∀ id a,D0 id=some a->D (Nat.add id k)=some a):∀ (l:List ao) {us:List Value},bx D0 l us->bx D (ou k l) us
 |[],us,h=>by simpa only[bx,ou]using h
 |v::l,us,h=>by simp only[bx,ou]at h |-;obtain⟨x,xs,aa,ad,h⟩:=h;exact⟨x,xs,A7 c3 v aa,DZ c3 l ad,h⟩
end
end
inductive su where
 |cells(l:List ao)(T:Nat)| map (es:List (ao×ao))
noncomputable def D1:eA->Option su
 | .cells cs T eV=>cs.Ay 0 eV λl=>some (.cells l T)
 | .map es=>some (.map es)| _=>none
noncomputable def readAll(t:a8 eA):Nat->Nat->Option (List su)
 |_,0=>some []| id,n+1=>bh (t.get id) none λe=>bh (D1 e) none λs=>bh (readAll t (Nat.add id 1) n) none λl=>some (s::l)
def MN(k:Nat):List (ao×ao)->List (ao×ao)
 |[]=>[]| p::l=>(iA k p.1,iA k p.2)::MN k l
noncomputable def su.hC(k:Nat):su->eA
 | .cells l T=>a8.uS (ou k l) .nil 0 λcs=>.cells cs T l.length
 | .map es=>.map (MN k es)
noncomputable def Hr{R:Type}(k:Nat):List su->Nat->a8 eA->(a8 eA->R)->R
 |[],_,t,K=>K t| s::l,id,t,K=>t.lP (some (s.hC k)) id λt=>Hr k l (Nat.add id 1) t K
noncomputable def MO(v:ao)(L:List su)(m:be):Option (ao×be):=pi m.n λn=>pi (Nat.add n L.length) λhB=>Hr n L n m.t λt=>some (iA n v,⟨t,hB⟩)
def U1{t:a8 eA}:∀ {n id:Nat} {L:List su},readAll t id n=some L->L.length=n/\∀ j s,L[j]?=some s->∃ e,t.get (id+j)=some e/\D1 e=some s
 |0,id,L,h=>by cases h;exact⟨rfl,by simp⟩
 |n+1,id,L,h=>by
  unfold readAll at h;obtain⟨e,aa,h⟩:=bW h;obtain⟨s,ad,h⟩:=bW h;obtain⟨l,al,h⟩:=bW h;cases h;obtain⟨a1,ba⟩:=U1 al;refine⟨by simp[a1],λj bP ai=>?_⟩;cases j with
  |zero=>cases ai;exact⟨e,aa,ad⟩| succ j=>obtain⟨cM,dS,ch⟩:=ba j bP (by simpa using ai);refine⟨cM,?_,ch⟩;rw[<-dS];congr 1;show id+(j+1)=id+1+j;omega
def U2(k:Nat):∀ (L:List su) (id:Nat) (t:a8 eA),∃ bj:a8 eA,(∀ {R:Type} (K:a8 eA->R),Hr k L id t K=K bj) /\ ∀ j e,bj.get j=some e->(id<=j/\∃ s,L[j-id]?=some s/\e=s.hC k)\/((j<id\/id+L.length<=j)/\t.get j=some e)
 |[],id,t=>⟨t,λK=>rfl,λj e h=>.inr ⟨by simp;omega,h⟩⟩
 |s::L,id,t=>by
  obtain⟨t1,aa,ad⟩:=a8.mX (some (s.hC k)) t id;obtain⟨bj,al,aL⟩:=U2 k L (id+1) t1;refine⟨bj,λK=>?_,λj e h=>?_⟩;·unfold Hr;rw[aa];exact al K
  ·rcases aL j e h with⟨a1,bP,ba,b4⟩ | ⟨a1,ba⟩
   ·refine .inl ⟨by omega,bP,?_,b4⟩;rw[show j-id=(j-(id+1))+1 by omega];simpa using ba
   ·rcases ad j e ba with⟨rfl,b4⟩ | ⟨b4,gx⟩
    ·refine .inl ⟨cI _,s,by simp,?_⟩;cases b4;rfl
    ·refine .inr ⟨?_,gx⟩;simp only[ea];omega
def afv{k:Nat}(c3:∀ id a,D0 id=some a->D (Nat.add id k)=some a){es:List (ao×ao)}{l:List MapEntry}(h:oo D0 es l):oo D (MN k es) l:=by
 induction h with
 |nil=>exact .nil| cons ae ag t aR=>exact .cons (A7 c3 _ ae) (A7 c3 _ ag) aR
def U3{k:Nat}:∀ {l:List ao} {i:Nat} {v:ao},(ou k l)[i]?=some v->∃ tF,l[i]?=some tF/\v=iA k tF
 |[],i,v,h=>by simp[ou]at h
 |x::l,0,v,h=>by simp only[ou,List.getElem?_cons_zero,jl]at h;exact⟨x,rfl,h.symm⟩
 |x::l,i+1,v,h=>by simp only[ou,EQ]at h;simpa using U3 h
def afw{k:Nat}(c3:∀ id a,D0 id=some a->D (Nat.add id k)=some a)(a3:∀ x∈M,x∈M'){a:Loc}{e:eA}{s:su}(h:j5 D0 E M a e)(af:D1 e=some s):j5 D E M' a (s.hC k):=by
 cases h with
 | @cells cs T eV arr ay aa ad al aL bG=>
  unfold D1 at af;obtain⟨l,a1,ba,b4⟩:=a8.AO cs eV 0 _ _ af;cases b4;obtain⟨bj,dS,ch⟩:=a8.uY (ou k l) (.nil:a8 ao) 0;show j5 D E M' a (a8.uS (ou k l) .nil 0 λcs=>eA.cells cs T l.length);rw[dS,a1];refine .cells arr ay (a3 _ aa) ad (λi v hi ax=>?_) aL bG;rcases ch i v ax with⟨_,h⟩ | ⟨_,h⟩;·obtain⟨tF,aA,rfl⟩:=U3 (by simpa using h);have:=ba i hi;rw[c9,aA]at this;obtain⟨x,f1,f2⟩:=al i tF hi this;exact⟨x,f1,A7 c3 _ f2⟩
  ·cases h
 |map l clock aa ad=>cases af;exact .map l clock (a3 _ aa) (afv c3 ad)| loop L aa ad=>cases af| done L aa ad al=>cases af
def afx(aG:cw Y.P Y.E)(bf:tE Y.P)(hl:Y.P.follows .mixedOrders=true){j2:be}{tF:ao}{L:List su}(ay:wJ ⟨Y.P,Y.E,λ_=>none,λ_ _ _=>none⟩ (ku ⟨Y.P,Y.E,λ_=>none,λ_ _ _=>none⟩ f) g args ⟨.nil,0⟩=some (tF,j2))(ek:readAll j2.t 0 j2.n=some L)(ez:∀ D us,bx D args us->bx (λ_=>none) args us){m m':be}{v:ao}(h:MO tF L m=some (v,m'))(hu:bx D args us)(hm:cE Y D m I M) :
  Spec Y.P g us I M λr I' M'=>∃ bk,D.ext bk m.n/\aH bk v r/\cE Y bk m' I' M':=by
 have k7:u9 ⟨Y.P,Y.E,λ_=>none,λ_ _ _=>none⟩:=λg vs m v m' h=>by cases h
 have afy:cE ⟨Y.P,Y.E,λ_=>none,λ_ _ _=>none⟩ (λ_=>none) ⟨.nil,0⟩ I []:=⟨λid e a h bq=>(by cases bq),λid hD e cM a bF h aa bq=>(by cases bq),λid a h=>(by cases h),λg cs h=>(by cases h)⟩;have ar:=(reckon (Y:=⟨Y.P,Y.E,λ_=>none,λ_ _ _=>none⟩) aG bf k7 hl ay (ez D us hu) afy).frame (M:=M);refine Spec.lT ar ?_;rintro r I' jS⟨M0,rfl,bs,bg,D0,-,ag,A8⟩;unfold MO at h;rw[LH,LH]at h;obtain⟨bj,aa,ad⟩:=U2 m.n L m.n m.t;rw[aa]at h;cases h;obtain⟨a1,ba⟩:=U1 ek;let bk:bz:=λid=>if id<m.n then D id else D0 (id-m.n)
 have c3:∀ id a,D0 id=some a->bk (Nat.add id m.n)=some a:=λid a aY=>by show(if id+m.n<m.n then D (id+m.n)else D0 (id+m.n-m.n))=some a;rw[ca (by omega),Nat.add_sub_cancel,aY]
 have pI:D.le bk:=λid a aY=>by show(if id<m.n then D id else D0 (id-m.n))=some a;rw[ck (hm.iy _ _ aY),aY]
 have lo:∀ id,id<m.n->bk id=D id:=λid hi=>ck hi;have ct:∀ id,m.n<=id->bk id=D0 (id-m.n):=λid hi=>ca (by omega);have src:∀ id e a,bj.get id=some e->bk id=some a->(m.n<=id/\∃ s c1,e=s.hC m.n/\j2.t.get (id-m.n)=some c1/\D1 c1=some s/\D0 (id-m.n)=some a)\/(id<m.n/\m.t.get id=some e/\D id=some a):=λid e a he aY=>by
  rcases ad id e he with⟨dS,s,ch,gI⟩ | ⟨dS,ch⟩;·obtain⟨c1,lB,MP⟩:=ba _ _ ch;rw[c9]at lB;rw[ct _ dS]at aY;exact .inl ⟨dS,s,c1,gI,lB,MP,aY⟩
  ·rcases Nat.lt_or_ge id m.n with aW | cV
   ·rw[lo _ aW]at aY;exact .inr ⟨aW,ch,aY⟩
   ·rw[ct _ cV]at aY;have:=A8.iy _ _ aY;omega
 refine⟨bk,λid hi=>lo id hi,A7 c3 _ ag,⟨λid e a he aY=>?_,λid hD e cM a bF he qE aY wA ah=>?_,λid a aY=>?_,hm.oj.mono bg⟩⟩
 ·rcases src id e a he aY with⟨dS,s,c1,rfl,ch,gI,lB⟩ | ⟨dS,ch,gI⟩
  ·exact afw c3 (λx ab=>h2 _ ab) (A8.hC _ _ _ ch lB) gI
  ·exact(hm.hC _ _ _ ch gI).mono pI λx ab _=>nQ _ ab
 ·rcases src id e a he aY with⟨dS,s,c1,rfl,ch,gI,lB⟩ | ⟨dS,ch,gI⟩
  ·rcases src hD cM bF qE wA with⟨MQ,bP,afz,rfl,y6,D2,MR⟩ | ⟨MQ,y6,D2⟩
   ·have:=A8.inj _ _ _ _ _ _ ch y6 lB MR ah;omega
   ·obtain⟨x,ab,Hs⟩:=A8.aq ch lB;obtain⟨y,aD,MS⟩:=hm.aq y6 D2;exact(bs x ab y aD (Hs.trans (ah.trans MS.symm))).elim
  ·rcases src hD cM bF qE wA with⟨MQ,bP,afz,rfl,y6,D2,MR⟩ | ⟨MQ,y6,D2⟩
   ·obtain⟨x,ab,Hs⟩:=A8.aq y6 MR;obtain⟨y,aD,MS⟩:=hm.aq ch gI;exact(bs x ab y aD (Hs.trans (ah.symm.trans MS.symm))).elim
   ·exact hm.inj _ _ _ _ _ _ ch y6 gI D2 ah
 ·show id<m.n+L.length;rcases Nat.lt_or_ge id m.n with aW | cV
  ·omega
  ·rw[ct _ cV]at aY;have:=A8.iy _ _ aY;omega
open Go Go.Proofs
def afA(k:Nat):liesAt Tryz.prog Tryz.prog.depth 207 ((k+1)*2/Tryz.prog.cellsOf 207) 0 207 1=true:=by
 have ad:Tryz.prog.cellsOf 207=2:=by kernel_rfl
 have aj:Tryz.prog.depth=(Tryz.prog.depth-1)+1:=by kernel_rfl
 have hp:sameLayout Tryz.prog Tryz.prog.depth 207 207=true:=by kernel_rfl
 have af:rowAt Tryz.prog (sameLayout Tryz.prog Tryz.prog.depth · 207) Tryz.prog.depth 207 (k+1) 0 1=true:=by
  generalize az:(sameLayout Tryz.prog Tryz.prog.depth · 207)=f;have pO:f 207=true:=by rw[<-az];exact hp
  rw[aj];unfold rowAt;simp only[ad,pO];simp
 rw[ad,Nat.mul_div_cancel _ (by decide:0<2)];rw[aj];unfold liesAt;rw[af];rfl
def afB(a5 post:List aE)(b:Nat)(v:Value)(k:Nat)(bc:List Value)(af:bc.length=2*k) :
  Spec Tryz.prog 192 [ptr b] I (a5++⟨b,.cells (.pointer none::v::bc).toArray 207 (0,0)⟩::post) λr I' M'=>r=.tuple #[]/\I'=I/\M'=a5++⟨b,.cells (bQ (.pointer none::v::bc) 0 [ptr b]).toArray 207 (0,0)⟩::post:=by
 obtain⟨inf,z,hi,fq,_⟩:=(a4 207 _ rfl).inf;refine cp [] a4 Tryz.func192 rfl rfl rfl ?_;intro B ay;have hm:∀ {o:Obj},(⟨b,o⟩:aE)∈a5++⟨b,o⟩::post:=fun {o}=>cO.2 (.inr (.head _));have cx:(Value.pointer none::v::bc).toArray.size=(k+1)*2:=by simp[af];omega
 have av:liesAt Tryz.prog Tryz.prog.depth 207 ((Value.pointer none::v::bc).toArray.size/Tryz.prog.cellsOf 207) 0 207 1=true:=by rw[cx];exact afA k
 refine aZ.mk [.pointer none] (cX (cs:=.pointer none::v::bc) (k:=0) (n:=1) (T:=207) hm (by simp)) ?_;refine .other (br.FC a4 rfl (by simp) rfl rfl rfl rfl ?_);refine a9.mk (λ_=>?_) (λh=>by cases h);refine br.conv rfl (by simp) rfl (λw hw=>Lib.run_to_unsafe (t:=207) (e:=207) w ⟨b,0,none⟩ (by kernel_rfl) (by kernel_rfl) (j:=inf) (cells:=(Value.pointer none::v::bc).toArray.size) hi (by rw[fq];decide) (FF hw hm) (by rw[cx];show 0<_;omega)) ?_;refine bd.mk (a5++⟨b,.cells (.pointer none::v::bc).toArray 207 (0,0)⟩::post) [] _ (by simp) (JE _) ?_;rintro v I' M' -⟨rfl,rfl,rfl⟩;refine br.conv rfl (by simp) rfl (λw hw=>Lib.run_from_unsafe (u:=207) (e:=207) w ⟨b,0,none⟩ (by kernel_rfl) (by kernel_rfl) (j:=inf) (cells:=(Value.pointer none::v::bc).toArray.size) hi (FF hw (cO.2 (.inl hm))) av) ?_;refine cn.mk a5 post _ _ (ee _) rfl (by rw[cx];show 0+0+1<=(k+1)*2;omega) rfl ?_;exact⟨_,_,.refl,rfl,rfl,rfl⟩
def afC{b:Nat}{T:Nat}(a3:(⟨b,.cells arr T (0,0)⟩:aE)∈M)(ay:arr[0]?=some (ptr b)) :
  Spec Tryz.prog 192 [ptr b] I M λr I' M'=>r=.tuple #[]/\I'=I/\M'=M:=by
 refine cp [] a4 Tryz.func192 rfl rfl rfl ?_;intro B iK;have af:c7 I M ((⟨b,0,none⟩:Addr).add 0) 1 [ptr b]:=by
  obtain⟨l⟩:=arr;cases l with
  |nil=>simp at ay| cons x l=>simp only[xR,List.getElem?_cons_zero,jl]at ay;subst ay;exact cX (cs:=ptr b::l) (k:=0) (n:=1) a3 (by simp)
 refine aZ.mk [ptr b] af ?_;refine .other (br.FC a4 rfl (by simp) rfl rfl rfl rfl ?_);refine a9.mk (λh=>by cases h) (λ_=>?_);refine aZ.mk [ptr b] af ?_;refine .other (br.Qw a4 rfl (by simp) rfl rfl rfl rfl rfl ?_);refine a9.mk (λh=>by cases h) (λ_=>?_);exact⟨_,_,.refl,rfl,rfl,rfl⟩
def afD{m:be}{id off:Nat}{T eV:Nat}{a:Loc}{a5 post:List aE}(hm:cE Y D m I M)(ax:m.t.get id=some (.cells cs T eV))(aY:D id=some a)(aC:a.o=0)(cZ:M=a5++⟨a.b,.cells arr T (0,0)⟩::post)(cx:a.o+eV<=arr.size)(au:∀ i v,i<eV->cs.get i=some v->∃ x,arr[a.o+i]?=some x/\aH D v x)(ae:∀ i,Y.E T=some i->arr.size=a.o+a.c*i.size)(hl:a.c<=maxLen)
  {l:List ao} {vs:List Value} (av:bx D l vs) {K:be->Option R} {r:R} (h:uW m (.p id off) l K=some r) :
  ∃ m',K m'=some r/\m'.n=m.n/\off+vs.length<=arr.size/\cE Y D m' I (a5++⟨a.b,.cells (bQ arr.toList off vs).toArray T (0,0)⟩::post):=by
 unfold uW at h;simp only[ax]at h;cases ah:(Nat.ble (Nat.add off l.length) eV&&l.all ao.one)with
 |false=>rw[ah]at h;cases h
 |true=>
  rw[ah]at h;simp only[bZ]at h;rw[b']at ah;have wS:off+l.length<=eV:=bH ah.1;obtain⟨cs',aa,ad⟩:=a8.uY l cs off;rw[aa]at h;obtain⟨bj,al,aL⟩:=a8.mX (some (eA.cells cs' T eV)) m.t id;rw[al]at h;have cu:=av.len;have gJ:off+vs.length<=arr.size:=by omega
  refine⟨_,h,rfl,gJ,?_⟩;have eZ:∀ x∈M,x.num≠a.b->x∈a5++⟨a.b,.cells (bQ arr.toList off vs).toArray T (0,0)⟩::post:=λx ab aJ=>by
   rw[cZ]at ab;rcases cO.1 ab with ab | ab;·exact cO.2 (.inl ab)
   ·rcases dW.1 ab with rfl | ab
    ·exact(aJ rfl).elim
    ·exact cO.2 (.inr (lO _ ab))
  refine hm.step (λi e hi=>(aL i e hi).imp (λq=>⟨q.1,mZ q.2⟩) λq=>q) aY (bz.le_refl D) (λ_ _=>rfl) hm.iy (λ_ _ h=>h) (λi e bF bs hi oq x ab aJ=>eZ x ab ?_) ?_ ?_;·rw[aJ];exact λah=>bs (hm.inj _ _ _ _ _ _ hi ax oq aY ah)
  ·have wT:(bQ arr.toList off vs).length=arr.size:=by rw[L2 (by simpa using gJ)];simp
   refine .cells (bQ arr.toList off vs).toArray aC (by simp) (by simp[wT];exact cx) (λi v hi DE=>?_) (λi hi=>by simp[wT];exact ae i hi) hl;rw[aC,c9];simp only[xR];rw[TS (by simpa using gJ)];rcases ad i v DE with⟨a1,ba⟩ | ⟨a1,ba⟩;·have aW:=(ih.1 ba).1;rw[ck ⟨a1,by omega⟩];exact av.get ba
   ·rw[ca (by omega)];have:=au i v hi ba;rw[aC,c9]at this;simpa using this
  ·intro i e bF bs hi oq ah;exact bs (hm.inj _ _ _ _ _ _ hi ax oq aY ah)
noncomputable def MT(m:be)(vs:List ao):Option (ao×be):=match vs with
 |[.p id 0]=>(match m.t.get id with
  |some (.cells cs T eV)=>bM (Nat.beq T 207&&Nat.ble 2 eV) (match cs.get 0 with
   |some .pn=>uW m (.p id 0) [.p id 0] λm=>some (.t [],m)
   |some (.p hD 0)=>bM (Nat.beq id hD) (some (.t [],m)) none| _=>none) none
  |_=>none)
 |_=>none
def afE(v0:Y.P=Tryz.prog)(afF:Y.E=pT){m m':be}{vs:List ao}{v:ao}(h:MT m vs=some (v,m'))(hu:bx D vs us)(hm:cE Y D m I M) :
  Spec Y.P 192 us I M λr I' M'=>∃ bk,D.ext bk m.n/\aH bk v r/\cE Y bk m' I' M':=by
 unfold MT at h;split at h
 ·rename_i id;obtain⟨x,xs,ab,aJ,rfl⟩:=hu.ji;obtain rfl:=aJ.lQ;obtain⟨a,aY,rfl⟩:=ab.ptr;split at h
  ·rename_i cs T eV ax;obtain⟨aa,aK⟩:=e4 h;clear h;rw[b']at aa;obtain⟨bl,wS⟩:=aa;obtain rfl:=dr bl;have wS:=bH wS;obtain⟨arr,aC,a3,av,au,ae,hl⟩:=hm.hC _ _ _ ax aY;have cx:=ae _ (by rw[afF];rfl);have cx:arr.size=a.c*2:=by rw[cx,aC,c9]
   have aO:Value.pointer (some ⟨a.b,a.o+0,none⟩)=ptr a.b:=by rw[aC];rfl
   split at aK
   ·rename_i vP;obtain⟨s6,ga,D3⟩:=au 0 _ (by omega) vP;obtain⟨a5,post,cZ⟩:=sc a3;obtain⟨db,ad,al,aL,bG⟩:=afD hm ax aY aC cZ av au ae hl (l:=[.p id 0]) (vs:=[ptr a.b]) (by simp only[bx,aH];exact⟨_,_,⟨a,aY,aO.symm⟩,rfl,rfl⟩) aK;cases ad;rw[aO,v0,cZ];obtain⟨l⟩:=arr;have afG:s6=.pointer none:=by simpa only[aH]using D3
    rw[aC]at ga
    match l,ga,cx with
    |[],ga,_=>simp at ga| [_],_,cx=>simp at cx;omega
    |y::w::bc,ga,cx=>
     have aD:y=.pointer none:=by simpa[afG]using ga
     subst aD;have eh:bc.length=2*(a.c-1):=by simp at cx;omega
     refine Spec.lT (afB a5 post a.b w (a.c-1) bc eh) ?_;rintro r I' M'⟨rfl,rfl,rfl⟩;exact⟨D,bz.m1,by simp only[aH,bx];exact⟨[],rfl,rfl⟩,bG⟩
   ·rename_i hD vP;obtain⟨ad,Al⟩:=e4 aK;obtain rfl:=dr ad;cases Al;obtain⟨s6,ga,D3⟩:=au 0 _ (by omega) vP;obtain⟨bF,wA,rfl⟩:=D3.ptr;rw[aY]at wA;cases wA;rw[aO]at ga |-;rw[v0];refine Spec.lT (afC a3 (by rw[<-ga,aC])) ?_;rintro r I' M'⟨rfl,rfl,rfl⟩;exact⟨D,bz.m1,by simp only[aH,bx];exact⟨[],rfl,rfl⟩,hm⟩
   ·cases aK
  ·cases h
 ·cases h
def iU(I:aM):List aE->aM
 |[]=>I| x::l=>ins (iU I l) x.num x.obj
def Ht{I:aM}:∀ {M:List aE} {b:Nat} {o:Obj},iU I M b=some o->I b=some o\/∃ x∈M,x.num=b/\x.obj=o
 |[],b,o,h=>.inl h
 |x::l,b,o,h=>by
  unfold iU ins at h;by_cases e:b=x.num;·subst e;simp only[oC,bZ,jl]at h;exact .inr ⟨x,by simp,rfl,h⟩
  ·simp only[g0 e,b0]at h;rcases Ht h with h | ⟨y,aa,ad,al⟩
   ·exact .inl h
   ·exact .inr ⟨y,by simp[aa],ad,al⟩
def U4{I:aM}:∀ {M:List aE} (aJ:(M.map (·.num)).Nodup) {x:aE},x∈M->iU I M x.num=some x.obj
 |y::l,aJ,x,h=>by
  simp only[cc,kN]at aJ;rcases dW.1 h with rfl | h;·unfold iU ins;simp only[oC,bZ]
  ·have e:x.num≠y.num:=λe=>aJ.1 (cG.2 ⟨x,h,e⟩);unfold iU ins;simp only[g0 e,b0];exact U4 aJ.2 h
def MU{I:aM}:∀ {M:List aE} (aj:∀ x∈M,I x.num=none) {b:Nat} {o:Obj},I b=some o->iU I M b=some o
 |[],aj,b,o,h=>h
 |y::l,aj,b,o,h=>by
  have e:b≠y.num:=λe=>by have:=aj y (by simp);rw[<-e,h]at this;cases this
  unfold iU ins;simp only[g0 e,b0];exact MU (λx ab=>aj x (by simp[ab])) h
def afH(aJ:(M.map (·.num)).Nodup)(aj:∀ x∈M,I x.num=none){b:Nat}{o:Obj}(h:g8 I M b o):iU I M b=some o:=by
 rcases h with h | ⟨x,aa,rfl,rfl⟩
 ·exact MU aj h
 ·exact U4 aJ aa
structure sv(I:aM)(M:List aE)(J:aM):Prop where
 aT:∀ b o,g8 I M b o->J b=some o
 inv:∀ b o,J b=some o->g8 I M b o
def sv.le{J:aM}(h:sv I M J):∀ b o,I b=some o->J b=some o:=λb o ah=>h.aT b o (.inl ah)
def U5(aa:dT I' M' w')(ad:Kept I [] w I' M' w'):sv I' M' (iU I' M')/\dT (iU I' M') [] w'/\Kept I [] w (iU I' M') [] w':=by
 refine⟨⟨λb o h=>afH aa.bX aa.d h,λb o h=>?_⟩,⟨λb o h=>?_,by simp,by simp,by simp⟩,⟨λb o h=>MU aa.d (ad.le _ _ h),λb o h=>?_,by simp,ad.dA,ad.out,ad.sz⟩⟩
 ·rcases Ht h with h | ⟨x,a1,ba,b4⟩
  ·exact .inl h
  ·exact .inr ⟨x,a1,ba,b4⟩
 ·rcases Ht h with h | ⟨x,a1,rfl,rfl⟩
  ·exact aa.i _ _ h
  ·exact aa.m _ a1
 ·rcases Ht h with h | ⟨x,a1,rfl,rfl⟩
  ·exact ad.ry _ _ h
  ·rcases ad.sM _ a1 with⟨y,aD,_⟩ | h
   ·cases aD
   ·exact .inr h
def Spec.iU{args:List Value}{Q:Value->aM->List aE->Prop}(h:Spec P f args I [] Q):Spec P f args I [] λr J jS=>jS=[]/\(∀ b o,I b=some o->J b=some o)/\∃ I' M',Q r I' M'/\sv I' M' J:=by
 rcases h with⟨aa,ad⟩ | h
 ·refine .inl ⟨aa,λw hw=>?_⟩;refine(ad w hw).mono ?_;rintro e w'⟨v,I',M',aA,a0,bY,dE⟩;obtain⟨a1,ba,b4⟩:=U5 bY dE;exact⟨v,_,[],aA,⟨rfl,b4.le,I',M',a0,a1⟩,ba,b4⟩
 ·refine .inr λw hw=>?_;obtain⟨v,w',I',M',aA,a0,bY,dE⟩:=h w hw;obtain⟨a1,ba,b4⟩:=U5 bY dE;exact⟨v,w',_,[],aA,⟨rfl,b4.le,I',M',a0,a1⟩,ba,b4⟩
noncomputable def y7{α:Type}(l:List α):a8 α:=a8.uS l .nil 0 id
def U6{l:List α}{i:Nat}{v:α}(h:(y7 l).get i=some v):l[i]?=some v:=by
 obtain⟨t,aa,ad⟩:=a8.uY l (.nil:a8 α) 0;unfold y7 at h;rw[aa]at h;rcases ad _ _ h with⟨_,h⟩ | ⟨_,h⟩
 ·simpa using h
 ·cases h
noncomputable def Hu:GT:=λg=>bM (Nat.beq g 0) (some (y7 (jU.map (ao.i .i64)))) (bM (Nat.beq g 1) (some (y7 (rY.map ao.s))) (bM (Nat.beq g 2) (some (y7 [.i .i64 0,.i .i64 1,.s [63],.i .i64 0,.i .i64 (-1),.s [42],.i .i64 1,.i .i64 (-1),.s [43]])) (bM (Nat.beq g 3) (some (y7 (lJ.map (ao.i .u8)))) none)))
def MV{f:α->ao}{h:α->Value}(az:∀ x D,aH D (f x) (h x)){l:List α}{i:Nat}{v:ao}(ag:(y7 (l.map f)).get i=some v):∃ x,(l.map h).toArray[i]?=some x/\∀ D,aH D v x:=by
 have:=U6 ag;rw[mr]at this;cases ab:l[i]? with
 |none=>rw[ab]at this;cases this| some x=>rw[ab]at this;simp only[ka,jl]at this;subst this;exact⟨h x,by simp[ab],az x⟩
def afI(bl:gg I lJ):Dv Hu I:=by
 intro g cs h;unfold Hu at h;rw[jh,jh,jh,jh]at h;cases aa:Nat.beq g 0 with
 |true=>rw[aa,bZ]at h;obtain rfl:=dr aa;have h:=gO h;subst h;obtain⟨T,f,h⟩:=bl.c;exact⟨_,T,f,h,λi v ag=>MV (f:=ao.i .i64) (h:=Value.int .i64) (λx D=>by simp only[aH]) ag⟩
 |false=>
 rw[aa,b0]at h;cases ad:Nat.beq g 1 with
 |true=>rw[ad,bZ]at h;obtain rfl:=dr ad;have h:=gO h;subst h;obtain⟨T,f,h⟩:=bl.s;exact⟨_,T,f,h,λi v ag=>MV (f:=ao.s) (h:=λl=>Value.string (strOf l)) (λx D=>by simp only[aH,strOf]) ag⟩
 |false=>
 rw[ad,b0]at h;cases al:Nat.beq g 2 with
 |true=>
  rw[al,bZ]at h;obtain rfl:=dr al;have h:=gO h;subst h;obtain⟨T,f,h⟩:=bl.p;refine⟨_,T,f,h,λi v ag=>?_⟩;have ag:=U6 ag;rcases i with _ | _ | _ | _ | _ | _ | _ | _ | _ | i
  all_goals first | (cases ag;exact⟨_,rfl,λD=>by simp only[aH]<;>rfl⟩) | (simp at ag)
 |false=>
 rw[al,b0]at h;cases aL:Nat.beq g 3 with
 |true=>rw[aL,bZ]at h;obtain rfl:=dr aL;have h:=gO h;subst h;obtain⟨_,_,T,f,h⟩:=bl.d;exact⟨_,T,f,h,λi v ag=>MV (f:=ao.i .u8) (h:=Value.int .u8) (λx D=>by simp only[aH]) ag⟩
 |false=>
 rw[aL,b0]at h;cases h
noncomputable def Hv:List UInt8->Nat->Nat->Int
 |[],_,_=>-1| b::l,c,k=>bM (Nat.beq b.toNat c) (Int.ofNat k) (Hv l c (Nat.succ k))
def U7(c:UInt8):∀ (l:List UInt8) (k:Nat),Hv l c.toNat k=if Lib.indexByte l c=-1 then -1 else Lib.indexByte l c+k
 |[],k=>rfl
 |b::l,k=>by
  have cV:=Lib.indexByte_ge l c;unfold Hv Lib.indexByte;rw[jh];by_cases h:b=c;·subst h;simp
  ·have aa:Nat.beq b.toNat c.toNat=false:=by
    cases ah:Nat.beq b.toNat c.toNat with
    |false=>rfl| true=>exact absurd (UInt8.toNat_inj.1 (dr ah)) h
   have ad:(b == c)=false:=by simpa using h
   rw[aa,b0,ad,U7 c l];simp only[jF,ky];by_cases al:Lib.indexByte l c=-1;·simp[al]
   ·have aL:(Lib.indexByte l c == -1)=false:=by simpa using al
    rw[aL,ca al];simp only[jF,ky];rw[ca (by omega)];omega
def U8:tE Tryz.prog:=ae1 (by kernel_rfl)
def U9:Tryz.prog.follows .mixedOrders=true:=by kernel_rfl
noncomputable def U':fJ:=⟨Tryz.prog,pT,λ_=>none,λ_ _ _=>none⟩
noncomputable def Va:List su:=[.map [(.i .u8 123,.f 284 [] []),(.i .u8 34,.f 285 [] []),(.i .u8 91,.f 286 [] []),(.i .u8 46,.f 287 [] []),(.i .u8 47,.f 306 [] [.p 1 0]),(.i .u8 38,.f 306 [] [.p 2 0]),(.i .u8 33,.f 306 [] [.p 3 0]),(.i .u8 63,.f 306 [] [.p 4 0]),(.i .u8 42,.f 306 [] [.p 5 0]),(.i .u8 43,.f 306 [] [.p 6 0]),(.i .u8 40,.f 306 [] [.p 7 0]),(.i .u8 41,.f 306 [] [.p 8 0]),(.i .u8 60,.f 289 [] []),(.i .u8 62,.f 306 [] [.p 10 0]),(.i .u8 58,.f 306 [] [.p 11 0]),(.i .u8 65,.f 290 [] []),(.i .u8 66,.f 290 [] []),(.i .u8 67,.f 290 [] []),(.i .u8 68,.f 290 [] []),(.i .u8 69,.f 290 [] []),(.i .u8 70,.f 290 [] []),(.i .u8 71,.f 290 [] []),(.i .u8 72,.f 290 [] []),(.i .u8 73,.f 290 [] []),(.i .u8 74,.f 290 [] []),(.i .u8 75,.f 290 [] []),(.i .u8 76,.f 290 [] []),(.i .u8 77,.f 290 [] []),(.i .u8 78,.f 290 [] []),(.i .u8 79,.f 290 [] []),(.i .u8 80,.f 290 [] []),(.i .u8 81,.f 290 [] []),(.i .u8 82,.f 290 [] []),(.i .u8 83,.f 290 [] []),(.i .u8 84,.f 290 [] []),(.i .u8 85,.f 290 [] []),(.i .u8 86,.f 290 [] []),(.i .u8 87,.f 290 [] []),(.i .u8 88,.f 290 [] []),(.i .u8 89,.f 290 [] []),(.i .u8 90,.f 290 [] []),(.i .u8 95,.f 290 [] []),(.i .u8 97,.f 290 [] []),(.i .u8 98,.f 290 [] []),(.i .u8 99,.f 290 [] []),(.i .u8 100,.f 290 [] []),(.i .u8 101,.f 290 [] []),(.i .u8 102,.f 290 [] []),(.i .u8 103,.f 290 [] []),(.i .u8 104,.f 290 [] []),(.i .u8 105,.f 290 [] []),(.i .u8 106,.f 290 [] []),(.i .u8 107,.f 290 [] []),(.i .u8 108,.f 290 [] []),(.i .u8 109,.f 290 [] []),(.i .u8 110,.f 290 [] []),(.i .u8 111,.f 290 [] []),(.i .u8 112,.f 290 [] []),(.i .u8 113,.f 290 [] []),(.i .u8 114,.f 290 [] []),(.i .u8 115,.f 290 [] []),(.i .u8 116,.f 290 [] []),(.i .u8 117,.f 290 [] []),(.i .u8 118,.f 290 [] []),(.i .u8 119,.f 290 [] []),(.i .u8 120,.f 290 [] []),(.i .u8 121,.f 290 [] []),(.i .u8 122,.f 290 [] [])],.cells [.i .u8 3] 5,.cells [.i .u8 4] 5,.cells [.i .u8 5] 5,.cells [.i .u8 6] 5,.cells [.i .u8 7] 5,.cells [.i .u8 8] 5,.cells [.i .u8 9] 5,.cells [.i .u8 10] 5,.cells [.i .u8 11] 5,.cells [.i .u8 12] 5,.cells [.i .u8 13] 5]
def afJ:(bh (wJ U' (ku U' 100000) 273 [] ⟨.nil,0⟩) none λp=>bh (readAll p.2.t 0 p.2.n) none λL=>some (p.1,L))=some (ao.m 0,Va):=by kernel_rfl
noncomputable def MW:kt:=λg vs m=>bM (Nat.beq g 325) (match vs with
 |[.s l,.i .u8 (.ofNat k)]=>bM (Nat.blt k 256) (some (.i .i64 (Hv l k 0),m)) none| _=>none) (bM (Nat.beq g 234) (match vs with
 |[v]=>some (v,m)| _=>none) (bM (Nat.beq g 273) (match vs with
 |[]=>MO (.m 0) Va m| _=>none) (bM (Nat.beq g 192) (MT m vs) none)))
noncomputable def u':fJ:=⟨Tryz.prog,pT,Hu,MW⟩
def afK:u9 u':=by
 intro g vs m v m' h D I M us hu hm;change MW g vs m=some (v,m')at h;unfold MW at h;rw[jh]at h;cases aa:Nat.beq g 325 with
 |true=>
  rw[aa,bZ]at h;obtain rfl:=dr aa;split at h
  ·rename_i l k;rw[jh]at h;cases ae:Nat.blt k 256 with
   |false=>rw[ae]at h;cases h
   |true=>
    rw[ae,bZ]at h;have hA:k<256:=Nat.blt_eq ▸ ae;cases h;simp only[bx,aH]at hu;obtain⟨x,xs,rfl,⟨y,ys,rfl,rfl,rfl⟩,rfl⟩:=hu;have q1:(UInt8.ofNat k).toNat=k:=by simp;omega
    have:=Qy (I:=I) (M:=M) ⟨l.toArray⟩ (UInt8.ofNat k);rw[q1]at this;refine Spec.lT this ?_;rintro r I' M'⟨rfl,rfl,rfl⟩;refine⟨D,bz.m1,?_,hm⟩;simp only[aH];have:=U7 (UInt8.ofNat k) l 0;rw[q1]at this;rw[this];split;·rename_i e;simp[e]
    ·simp
  ·cases h
 |false=>
 rw[aa,b0,jh]at h;cases ad:Nat.beq g 234 with
 |true=>
  rw[ad,bZ]at h;obtain rfl:=dr ad;split at h;·cases h;simp only[bx]at hu;obtain⟨x,xs,hu,rfl,rfl⟩:=hu;refine Spec.lT (JE _) ?_;rintro r I' M'⟨rfl,rfl,rfl⟩;exact⟨D,bz.m1,hu,hm⟩
  ·cases h
 |false=>
 rw[ad,b0,jh]at h;cases al:Nat.beq g 273 with
 |true=>
  rw[al,bZ]at h;obtain rfl:=dr al;split at h;·obtain⟨⟨tF,j2⟩,aL,bG⟩:=bW afJ;obtain⟨L,cr,eM⟩:=bW bG;cases eM;exact afx (Y:=u') a4 U8 U9 aL cr (λD us h=>by simpa only[bx]using h) h hu hm
  ·cases h
 |false=>
 rw[al,b0,jh]at h;cases aL:Nat.beq g 192 with
 |true=>rw[aL,bZ]at h;obtain rfl:=dr aL;exact afE rfl rfl h hu hm
 |false=>
 rw[aL,b0]at h;cases h
def afL(bl:gg I lJ){m':be}{v:ao}(h:wJ u' (ku u' f) g args ⟨.nil,0⟩=some (v,m'))(hu:bx (λ_=>none) args us) :
  Spec Tryz.prog g us I [] λr J jS=>jS=[]/\(∀ b o,I b=some o->J b=some o)/\∃ I' M' bk,aH bk v r/\cE u' bk m' I' M'/\sv I' M' J:=by
 have hm:cE u' (λ_=>none) ⟨.nil,0⟩ I []:=⟨λid e a h bq=>(by cases bq),λid hD e cM a bF h aa bq=>(by cases bq),λid a h=>(by cases h),afI bl⟩;refine Spec.lT (reckon (Y:=u') a4 U8 afK U9 h hu hm).iU ?_;rintro r J jS⟨rfl,aa,I',M',⟨bk,-,ad,al⟩,aL⟩;exact⟨rfl,aa,I',M',bk,ad,al,aL⟩
def afM:∀ {l:List Int} (h:0<l.length),l.headD 0=l[0]
 |a::l,_=>rfl
def mh(ns:List an)(xs:List aI):Bool:=ns.any λd=>decide (d.k=6)&&(decide (d.hi=-1)&&(xs.getD (d.ap.headD 0).toNat bK).z)
def afN(p:α->Bool)(l:List α)(x:α):(l++[x]).any p=(l.any p||p x):=by simp
def afO{p:α->Bool}{l:List α}{i:Nat}(h:(l.take i).any p=true):l.any p=true:=by rw[yV]at h |-;obtain⟨x,ab,aO⟩:=h;exact⟨x,zR ab,aO⟩
def afP{t:bw}(aw:t.ok I)(af:right t=true){xa:Option Addr}{xc:Nat}{xs:List aI}(ab:lK I M0 xa t.n xs):Spec Tryz.prog 162 [t.val,.slice xa t.n xc] I M0 λv I' M'=>v=.bool (mh t.ns xs)/\I'=I/\M'=M0:=by
 refine cp [] a4 Tryz.func162 rfl rfl rfl ?_;intro B ay;have l9:=aw.n;have iN:=aw.bb.cap;have Hs:=ab.n;refine dI.inv (ι:=Nat) (λi=>{ bn:=[(1,.val (.slice xa t.n xc)),(8,.val (.slice t.a t.n t.c)),(9,.val (.int .i64 t.n)),(10,.val (.int .i64 i))],c2:=I,dx:=M0 }) (λi=>i<=t.n/\(t.ns.take i).any (λd=>decide (d.k=6)&&(decide (d.hi=-1)&&(xs.getD (d.ap.headD 0).toNat bK).z))=false) (λi=>t.n-i) ?_ ?_
 ·exact⟨0,⟨dO _,rfl⟩,.refl,fr,.nil⟩
 rintro i⟨hi,dR⟩;refine a9.mk (λh=>?_) (λh=>?_)
 rotate_left
 ·have cV:i=t.n:=by have:¬ (i:Int)<(t.n:Int):=eO h;omega
  rw[fT (by omega)]at dR;refine⟨_,_,.refl,?_,rfl,rfl⟩;rw[mh,dR]
 have aW:i<t.n:=by have:(i:Int)<(t.n:Int):=dV h;omega
 have cy:i<t.ns.length:=by omega
 obtain⟨aV,bU,bB⟩:=aw.bb.row an.da aW cy;have aj:=aw.ns _ (b9 cy);have q2:=zX af cy;have gW:=jX af i cy;have e':=aj.aT;have kK:(t.ns.take (i+1)).any (λd=>decide (d.k=6)&&(decide (d.hi=-1)&&(xs.getD (d.ap.headD 0).toNat bK).z))=(decide (t.ns[i].k=6)&&(decide (t.ns[i].hi=-1)&&(xs.getD (t.ns[i].ap.headD 0).toNat bK).z)):=by rw[gD cy,afN,dR,rG]
 generalize t.ns[i]=d at bB aj q2 gW e' kK;refine bu.mk aV i bU rfl aW ?_;refine aZ.mk _ (bB _) ?_;refine cP.mk (λcr=>?_) (λcr=>?_)
 rotate_left
 ·have Hw:decide (d.k=6)=false:=cr;rw[Hw]at kK;refine bi.mk _ (de (i:=i) (by omega)) ?_;exact⟨i+1,⟨⟨aW,kK⟩,by omega⟩,.refl,fr,.nil⟩
 have Hw:decide (d.k=6)=true:=cr;have al8:d.k=6:=dV Hw;rw[Hw,n3]at kK;refine cP.mk (λaa=>?_) (λaa=>?_)
 rotate_left
 ·have tf:decide (d.hi=-1)=false:=aa;rw[tf]at kK;refine bi.mk _ (de (i:=i) (by omega)) ?_;exact⟨i+1,⟨⟨aW,kK⟩,by omega⟩,.refl,fr,.nil⟩
 have tf:decide (d.hi=-1)=true:=aa;rw[tf,n3]at kK;have jV:0<d.ap.length:=by have:=RU aj.k.1 q2 (by omega);omega
 obtain⟨gp,fe,e1⟩:=aj.bb.one (j:=0) (by omega) jV;have ag:=gW _ (b9 jV);have cK:d.ap.headD 0=d.ap[0]:=afM jV;rw[cK]at kK;have gX:d.ap[0].toNat<xs.length:=by omega
 obtain⟨MX,MY,MZ⟩:=ab.rd _ gX;have ax:xs.getD d.ap[0].toNat bK=xs[d.ap[0].toNat]:=by simp[cv,gX]
 rw[ax]at kK;refine bu.mk gp 0 fe rfl (by omega) ?_;refine aZ.mk _ (e1 _) ?_;refine bu.mk MX d.ap[0].toNat MY (by omega) (by omega) ?_;refine aZ.mk _ (MZ.part (k:=0) (m:=1) (by decide)) ?_;refine a9.mk (λa'=>?_) (λa'=>?_)
 ·have gv:xs[d.ap[0].toNat].z=true:=a';refine⟨_,_,.refl,?_,rfl,rfl⟩;rw[mh,afO (i:=i+1) (by rw[kK,gv])]
 ·have gv:xs[d.ap[0].toNat].z=false:=a';rw[gv]at kK;refine bi.mk _ (de (i:=i) (by omega)) ?_;exact⟨i+1,⟨⟨aW,kK⟩,by omega⟩,.refl,fr,.nil⟩
def df.mark(s:df)(i k:Nat):df:=⟨s.n,s.m.set i (s.m.getD i 0 ||| j1 k),s.w⟩
def jj(b:Nat)(s:df):aE:=⟨b,.cells s.cells.toArray 158 (0,0)⟩
def df.da(s:df):s.cells.length=66:=by simp[df.cells,re]
def afQ{b:Nat}{s:df}(a3:jj b s∈M)(ai:j<64):c7 I M (((⟨b,0,none⟩:Addr).add 1).add (j*1)) 1 [mY (s.m.getD j 0)]:=by rw[dY (⟨b,0,none⟩:Addr) rfl,dY _ rfl];refine⟨rfl,_,_,_,.inr ⟨_,a3,rfl,rfl⟩,?_,rfl⟩;simp only[c9,gV];show(s.cells.drop (1+j)).take 1=_;rw[df.cells,By 1 j,Dc,SC (by rw[re];omega),e6 (by rw[re];exact ai),qO,oN,nS];simp[jB]
def afR{s:df}(ar:s.m.length=64){i k:Nat}(hi:i<64):bQ s.cells (0+1+i*1) [mY (s.m.getD i 0 ||| j1 k)]=(s.mark i k).cells:=by
 unfold df.cells df.mark;simp only;have aA:bQ (Value.int .i64 s.n::(jB s.m++[mY s.w])) (0+1+i*1) [mY (s.m.getD i 0 ||| j1 k)]=Value.int .i64 s.n::(bQ (jB s.m) (0+i*1) [mY (s.m.getD i 0 ||| j1 k)]++[mY s.w]):=by have h:=Tv [Value.int .i64 s.n] (jB s.m) [mY s.w] i [mY (s.m.getD i 0 ||| j1 k)] (by rw[re];show i+1<=64;omega);simp only[wD,p7,ea,gL,c9,gV]at h |-;exact h
 rw[aA,TF s.m ar i hi]
def cn.afS{b x y:Nat}{vs:List Value}{K:List aE->Prop}(a5 post:List aE)(cs:List Value)(T:Nat)(a3:M=a5++⟨b,.cells cs.toArray T (0,0)⟩::post)(ah:0+x+y+vs.length<=cs.length)(aa:fN vs=true)
  (cs':List Value) (he:bQ cs (0+x+y) vs=cs') (h:K (a5++⟨b,.cells cs'.toArray T (0,0)⟩::post)):cn M (((⟨b,0,none⟩:Addr).add x).add y) vs K:=by
 rw[dY (⟨b,0,none⟩:Addr) rfl,dY _ rfl];exact cn.pg a5 post cs.toArray T a3 rfl (by rw[nv];simpa using ah) aa cs' he h
def afT{M1:List aE}{g:eo}(ax:g.ok I){nm:ByteArray}{k:Nat}(ae:d' nm g.ds 0=k)(M2:k<64){b6 b7 i:Nat}(hi:i<64){s:df}(ar:s.m.length=64)(aa:(⟨b1,.cells #[.slice g.a g.n g.c] 24 (0,0)⟩:aE)∈M1)(eM:(⟨b7,.cells #[.int .i64 i] 3 (0,0)⟩:aE)∈M1) :
  Spec Tryz.prog 161 [.string nm,ptr b1,ptr b6,ptr b7] I (jj b6 s::M1) λv I' M'=>I'=I/\M'=jj b6 (s.mark i k)::M1:=by
 refine cp [] a4 Tryz.func161 rfl rfl rfl ?_;intro B ay;refine aZ.mk [.slice g.a g.n g.c] ⟨rfl,_,_,_,.inr ⟨_,.tail _ aa,rfl,rfl⟩,rfl,rfl⟩ ?_;have az:Spec Tryz.prog 31 [g.val,.string nm] I (jj b6 s::M1) λv I' M'=>v=.int .i64 k/\I'=I/\M'=jj b6 s::M1:=by refine Spec.lT (Spec.frame (aaI ax nm)) ?_;rintro v J M⟨M',rfl,-,-,rfl,rfl,rfl⟩;rw[ae];exact⟨rfl,rfl,rfl⟩
 refine bd.whole _ az ?_;rintro v J N -⟨rfl,bL,gq⟩;subst J;subst N;refine a9.mk (λ_=>?_) (λh=>?_)
 rotate_left
 ·have:¬ (0:Int)<=(k:Int):=eO h;omega
 refine dh.draw a4 rfl rfl rfl ?_;refine aZ.mk [.int .i64 i] ⟨rfl,_,_,_,.inr ⟨_,.tail _ eM,rfl,rfl⟩,rfl,rfl⟩ ?_;refine dP.mk i rfl hi ?_;refine aZ.mk _ (afQ (.head _) hi) ?_;refine tW.mk k rfl ?_;refine bi.mk _ (LQ M2) ?_;refine dP.mk i rfl hi ?_;refine cn.afS [] M1 s.cells _ rfl ?_ rfl (s.mark i k).cells ?_ ?_
 ·rw[df.da];show 0+1+i*1+1<=66;omega
 ·show bQ s.cells (0+1+i*1) [Value.int .u64 (AR (s.m.getD i 0).toNat (j1 k).toNat)]=_;rw[G6];exact afR ar hi
 exact⟨_,_,.refl,rfl,rfl⟩
section
end
structure afU(d:an)(n:Int):Prop where
 z:d.k=0->d.t=⟨#[]⟩
 leaf:d.k<=3->n=0
 one:6<=d.k->n=1
 two:d.k=4\/d.k=5->2<=n
def Vb{d:an}{n:Int}(ay:0<=d.k)(h:fits d n=true):afU d n:=by
 have ar:=(JL h).k;have ae:d.k=0\/d.k=1\/d.k=2\/d.k=3\/d.k=4\/d.k=5\/d.k=6\/d.k=7\/d.k=8\/d.k=9:=by omega
 have ez:∀ j:Fin 10,rO j.val=jU.getD (j.val*2) 0/\pU j.val=jU.getD (j.val*2+1) 0:=by decide
 unfold fits at h;rcases ae with e | e | e | e | e | e | e | e | e | e<;>rw[e]at h<;>simp[rO,pU,jU]at h <;>
  refine⟨λq=>?_,λq=>?_,λq=>?_,λq=>?_⟩<;>first | (omega;done) | (exact h.2.2.1;done) | (exact h.2.1;done) | (simp_all;done)
def Vc(nm:ByteArray):∀ (ds:List a2) (i:Nat),d' nm ds i=bif decide (d' nm ds 0<0)then -1 else d' nm ds 0+i
 |[],i=>rfl
 |d::ds,i=>by
  unfold d';cases h:decide (d.name=nm)with
  |true=>
   have:decide ((((0:Nat):Int))<0)=false:=by decide
   simp[this]
  |false=>
   rw[b0,b0,Vc nm ds (i+1),Vc nm ds (0+1)];have af:d' nm ds 0<0\/0<=d' nm ds 0:=by omega
   rcases af with af | af;·rw[h6 af];rfl
   ·have e:decide (d' nm ds 0<0)=false:=eU (by omega);rw[e,b0,b0];have a0:decide (d' nm ds 0+((0+1:Nat):Int)<0)=false:=eU (by omega);rw[a0,b0];omega
def Vd(nm:ByteArray)(ar b8:List a2):d' nm (ar++b8) 0=bif decide (d' nm ar 0<0)then d' nm b8 ar.length else d' nm ar 0:=by
 have key:∀ (ar:List a2) (i:Nat),d' nm (ar++b8) i=bif decide (d' nm ar i<0)then d' nm b8 (i+ar.length)else d' nm ar i:=by
  intro ar
  induction ar with
  |nil=>intro i;simp[d']
  |cons d ar aR=>
   intro i;rw[qO,d',d'];cases decide (d.name=nm)with
   |true=>have:decide ((i:Int)<0)=false:=eU (by omega);rw[bZ,bZ,this,b0]| false=>rw[b0,b0,aR (i+1),ea];rw[show i+1+ar.length=i+(ar.length+1)from by omega]
 have:=key ar 0;rwa [c9]at this
structure A9(ar:List a2)(aP:List (ByteArray×Int)):Prop where
 look:∀ nm,(dz nm aP).isSome=decide (0<=d' nm ar 0)
def Ve(nm:ByteArray)(p:ByteArray×Int):∀ aP:List (ByteArray×Int),(dz nm (aP++[p])).isSome=((dz nm aP).isSome||decide (nm=p.1))
 |[]=>by
  show(bif decide (nm=p.1)then some p.2 else none:Option Int).isSome=_;cases decide (nm=p.1)<;>rfl
 |q::aP=>by
  rw[qO,dz,dz];cases decide (nm=q.1)with
  |true=>rfl| false=>rw[b0,b0,Ve nm p aP]
def A9.snoc{ar:List a2}{aP:List (ByteArray×Int)}(h:A9 ar aP)(d:a2)(v:Int):A9 (ar++[d]) (aP++[(d.name,v)]):=by
 refine⟨λnm=>?_⟩;rw[Ve,h.look,Vd];by_cases af:d' nm ar 0<0
 ·rw[h6 af,bZ,eU (by omega:¬ 0<=d' nm ar 0),rG];unfold d';have:decide (d.name=nm)=decide (nm=d.name):=decide_eq_decide.2 ⟨Eq.symm,Eq.symm⟩;rw[this];cases decide (nm=d.name)with
  |true=>simp| false=>rw[b0];rfl
 ·rw[eU af,b0,h6 (by omega:0<=d' nm ar 0),Bool.true_or]
def ov(ds:List a2)(i:Nat):Bool:=match ds[i]? with
 |some d=>decide (d' d.name ds 0=i)| none=>true
def afV(d:a2)(b8:List a2)(i:Nat):d' d.name (d::b8) i=i:=by rw[d',h6 rfl];rfl
def afW(b8:List a2):∀ (ar:List a2) (aP:List (ByteArray×Int)),A9 ar aP->(∀ i,i<ar.length->ov (ar++b8) i=true) ->
  match ko aP ar.length b8 with
  |none=>∃ i,i<(ar++b8).length/\ov (ar++b8) i=false/\∀ k,k<i->ov (ar++b8) k=true| some r=>A9 (ar++b8) r/\∀ i,i<(ar++b8).length->ov (ar++b8) i=true:=by
 induction b8 with
 |nil=>intro ar aP h az;rw[ee]at *;exact⟨h,az⟩
 |cons d b8 aR=>
  intro ar aP h az;have lG:(ar++d::b8)[ar.length]?=some d:=by simp
  have nc:ov (ar++d::b8) ar.length=!(dz d.name aP).isSome:=by
   unfold ov;rw[lG,h.look];simp only;rw[Vd];by_cases af:d' d.name ar 0<0;·rw[h6 af,bZ,afV];simp;omega
   ·rw[eU af,b0];have aW:d' d.name ar 0<ar.length:=by
     have:∀ (ar:List a2) (i:Nat),0<=d' d.name ar i->d' d.name ar i<i+ar.length:=by
      intro ar
      induction ar with
      |nil=>intro i h;simp[d']at h
      |cons e ar M3=>
       intro i h;unfold d' at h |-;cases au:decide (e.name=d.name)with
       |true=>simp;omega| false=>rw[au,b0]at h;rw[b0];have:=M3 (i+1) h;simp;omega
     have:=this ar 0 (by omega);omega
    have aA:decide (d' d.name ar 0=(ar.length:Int))=false:=eU (by omega);have a0:decide (0<=d' d.name ar 0)=true:=h6 (by omega);rw[aA,a0];rfl
  rw[ko];cases av:(dz d.name aP).isSome with
  |true=>rw[av]at nc;exact⟨ar.length,by simp,nc,az⟩
  |false=>
   rw[av]at nc;have:=aR (ar++[d]) (aP++[(d.name,(ar.length:Int))]) (h.snoc d _) (λi hi=>by
    rw[fi];simp at hi;rcases Nat.lt_or_eq_of_le (Nat.lt_succ_iff.1 (by omega:i<ar.length+1))with aa | aa;·exact az i aa
    ·rw[aa];exact nc)
   rw[cL,fi]at this;exact this
def afX:A9 [] []:=⟨λnm=>by simp[dz,d']⟩
def A'(ds:List a2)(n:an):Bool:=!decide (n.k=3)||decide (0<=d' n.t ds 0)
def Vf(p:an->Bool):∀ (ds:List a2) (i:Nat),((oa i ds).all λx=>p x.2)=ds.all λd=>d.t.ns.all p
 |[],i=>rfl| d::ds,i=>by rw[oa,Cl,tT,Vf p ds (i+1),F3];rfl
def M4(aF:List Int)(g:eo):Int:=
 bif decide ((g.n:Int)=0)then 4 else bif !nw g.ds then 4 else bif n' aF g then 40 else
 bif !(List.range g.ds.length).all (ov g.ds)then 6 else bif g.ds.all λd=>d.t.ns.all (A' g.ds)then 0 else 41
def afY(aF:List Int)(g:eo):M4 aF g=eH aF g:=by
 unfold M4 eH;have h:=afW g.ds [] [] afX (λi hi=>by simp at hi);simp only[gL,jq]at h;cases aj:ko [] 0 g.ds with
 |none=>
  rw[aj]at h;obtain⟨i,aa,ad,_⟩:=h;have:(List.range g.ds.length).all (ov g.ds)=false:=by rw[Bool.eq_false_iff];intro dN;rw[fL]at dN;have:=dN i (kb.2 aa);rw[ad]at this;cases this
  rw[this];rfl
 |some aP=>
  rw[aj]at h;obtain⟨aa,ad⟩:=h;have al:(List.range g.ds.length).all (ov g.ds)=true:=by rw[fL];intro i hi;exact ad i (kb.1 hi)
  rw[al];have aL:(g.ds.all λd=>d.t.ns.all (A' g.ds))=pd aP g.ds:=by unfold pd;rw[Vf];congr 1;funext d;congr 1;funext n;unfold wk A';rw[aa.look]
  rw[aL];rfl
def afZ{i:Nat}(h:i<ds.length):ov ds i=decide (d' ds[i].name ds 0=i):=by unfold ov;rw[dX h]
def Vg(nm:ByteArray):∀ (ds:List a2) (i:Nat),uP nm ds i=bif decide (d' nm ds i<0)then none else some (d' nm ds i)
 |[],i=>rfl
 |d::ds,i=>by
  unfold uP d';rw[show decide (nm=d.name)=decide (d.name=nm) by rw[rq];simp[eq_comm]];cases decide (d.name=nm)with
  |true=>rw[bZ,bZ,eU (by omega)];rfl| false=>rw[b0,b0];exact Vg nm ds (i+1)
def Vh(nm:ByteArray)(ds:List a2):dz nm (bp ds)=bif decide (d' nm ds 0<0)then none else some (d' nm ds 0):=by rw[KE,Vg]
def Vi{nm:ByteArray}(h:(dz nm (bp ds)).isSome=true):∃ q:Nat,d' nm ds 0=q/\q<ds.length/\((dz nm (bp ds)).getD 0).toNat=q:=by
 have kg:=Vh nm ds;cases aj:decide (d' nm ds 0<0)with
 |true=>rw[aj,bZ]at kg;rw[kg]at h;cases h| false=>rw[aj,b0]at kg;have aL:¬ d' nm ds 0<0:=eO aj;obtain⟨q,aK⟩:=eN (by omega:0<=d' nm ds 0);have Vj:=kg;rw[KE]at Vj;obtain⟨j,Fw,vR⟩:=KF Vj;refine⟨q,aK,by omega,?_⟩;rw[kg,aK];rfl
def df.marks(s:df)(i:Nat)(l:List Nat):df:=l.foldl (λs k=>s.mark i k) s
def df.Vk(s:df)(i:Nat)(l m:List Nat):s.marks i (l++m)=(s.marks i l).marks i m:=q0
def df.Ba:∀ (l:List Nat) (s:df) (i:Nat),(s.marks i l).m.length=s.m.length
 |[],s,i=>rfl| k::l,s,i=>by have:=df.Ba l (s.mark i k) i;unfold df.marks at this |-;rw[iY,this];simp[df.mark]
def M5(b1 b6 b7:Nat):Value:=.func (.func 161) #[] #[ptr b1,ptr b6,ptr b7]
def Vl{I:aM}{g:eo}(ax:g.ok I)(j7:g.n<=64){t:bw}(aw:t.ok I)(g7:rf t)(af:right t=true)(dR:tk (bp g.ds) t.ns=true){F:List aI}{M1:List aE}{b1 b6 b7 i:Nat}(hi:i<64)(aa:(⟨b1,.cells #[.slice g.a g.n g.c] 24 (0,0)⟩:aE)∈M1)(eM:(⟨b7,.cells #[.int .i64 i] 3 (0,0)⟩:aE)∈M1){xa:Option Addr}{xc:Nat}(ab:lK I M1 xa t.n (dF (bp g.ds) F t.ns [])) : ∀ (m j:Nat),j<m->∀ (ai:j<t.ns.length) (s:df) (ar:s.m.length=64),Spec Tryz.prog 160 [t.val,.slice xa t.n xc,.int .i64 j,M5 b1 b6 b7] I (jj b6 s::M1) λv I' M'=>I'=I/\M'=jj b6 (s.marks i (ff (bp g.ds) F t.ns j).2)::M1
 |0,j,h,_,_,_=>absurd h (ot _)
 |m+1,j,af0,ai,s,ar=>by
  have aR:=Vl (b6:=b6) (xc:=xc) ax j7 aw g7 af dR hi aa eM ab m;have l9:=aw.n;have jw:=ax.n;have gh:=b9 ai;have aj:=aw.ns _ gh;have e':=aj.aT;have M6:=g7 _ gh;have gJ:=zX af ai;have M7:=Vb aj.k.1 gJ;have gW:=jX af j ai;have nN:=fL.1 dR _ gh;have bg:=KU (pl:=bp g.ds) (F:=F) af ai;have l5:=C1 (bp g.ds) F t.ns [];simp only[gL,c9]at l5;obtain⟨aV,bU,bB⟩:=aw.bb.row an.da (show j<t.n by omega) ai;have uC:(ff (bp g.ds) F t.ns j).2=iS (bp g.ds) t.ns[j] (t.ns[j].ap.map (ff (bp g.ds) F t.ns)):=by rw[bg];rfl
  rw[uC];clear bg uC;have M8:∀ q (h:q<t.ns[j].ap.length),∃ k:Nat,t.ns[j].ap[q]=k/\k<j:=λq h=>by have:=gW _ (b9 h);exact⟨t.ns[j].ap[q].toNat,by omega,by omega⟩
  generalize t.ns[j]=d at *;refine cp [] a4 Tryz.func160 rfl rfl rfl ?_;intro B ay;refine bu.mk aV j bU rfl (by omega) ?_;refine aZ.mk _ (bB _) ?_;refine a9.mk (λe=>?_) (λbY=>?_);·have e:d.k=3:=dV e;obtain⟨q,C2,Al,M9⟩:=Vi (nm:=d.t) (ds:=g.ds) (by simpa[e]using nN);refine bd.whole _ (afT ax C2 (by omega) hi ar aa eM) ?_;rintro v J N -⟨bL,gq⟩;subst J;subst N;refine⟨_,_,.refl,rfl,?_⟩;rw[iS,h6 e,bZ,M9];rfl
  have bY:¬ d.k=3:=eO bY;refine a9.mk (λe=>?_) (λdE=>?_)
  ·have e:d.k=4:=dV e;have y8:iS (bp g.ds) d (d.ap.map (ff (bp g.ds) F t.ns))=iw (d.ap.map (ff (bp g.ds) F t.ns)):=by rw[iS,eU bY,h6 e];rfl
   rw[y8];refine dI.inv (ι:=Nat×df) (λx=>{ bn:=[(1,.val (.slice xa t.n xc)),(3,.val (M5 b1 b6 b7)),(4,.ref 4 0),(42,.val (.slice d.cW d.aT d.c5)),(43,.val (.int .i64 d.aT)),(44,.val (.int .i64 x.1))],cl:=[(4,t.cells)],c2:=I,dx:=jj b6 x.2::M1 }) (λx=>x.1<=d.aT/\x.2.m.length=64/\s.marks i (iw (d.ap.map (ff (bp g.ds) F t.ns)))=x.2.marks i (iw ((d.ap.drop x.1).map (ff (bp g.ds) F t.ns)))) (λx=>d.aT-x.1) ?_ ?_;·exact⟨(0,s),⟨dO _,ar,rfl⟩,.refl,xQ,.cons rfl (.nil)⟩
   rintro⟨q,bP⟩⟨aK,mz,jg⟩;simp only at aK mz jg;refine a9.mk (λh=>?_) (λh=>?_)
   rotate_left
   ·have cV:d.ap.length<=q:=by have:¬ (q:Int)<(d.aT:Int):=eO h;omega
    rw[qe cV]at jg;refine⟨_,_,.refl,rfl,?_⟩;rw[jg];rfl
   have aW:q<d.aT:=by have:(q:Int)<(d.aT:Int):=dV h;omega
   have cy:q<d.ap.length:=by omega
   obtain⟨gp,fe,e1⟩:=aj.bb.one aW cy;obtain⟨k,ae,D4⟩:=M8 q cy;rw[ae]at e1;have Vm:k<(dF (bp g.ds) F t.ns []).length:=by omega
   obtain⟨MX,MY,MZ⟩:=ab.rd k Vm;have DS:(d.ap.drop q).map (ff (bp g.ds) F t.ns)=ff (bp g.ds) F t.ns k::(d.ap.drop (q+1)).map (ff (bp g.ds) F t.ns):=by rw[e6 cy,cc,ae]
   have k2:(ff (bp g.ds) F t.ns k).1=(dF (bp g.ds) F t.ns [])[k]:=by rw[KV];simp[cv,Vm]
   rw[DS,iw,k2,df.Vk]at jg;refine bu.mk gp q fe rfl aW ?_;refine aZ.mk _ (e1 _) ?_;refine bd.whole _ (aR k (by omega) (by omega) bP mz) ?_;rintro v J N -⟨bL,gq⟩;subst J;subst N;refine bu.mk MX k MY rfl (by omega) ?_;refine aZ.mk _ ((MZ.sub λx ab=>.tail _ ab).part (k:=0) (m:=1) (by decide)) ?_;refine a9.mk (λa'=>?_) (λa'=>?_)
   ·have gv:(dF (bp g.ds) F t.ns [])[k].z=false:=by simpa using a'
    rw[gv]at jg;refine⟨_,_,.refl,rfl,?_⟩;rw[jg];rfl
   ·have gv:(dF (bp g.ds) F t.ns [])[k].z=true:=by simpa using a'
    rw[gv]at jg;refine bi.mk _ (de (i:=q) (by omega)) ?_;exact⟨(q+1,bP.marks i (ff (bp g.ds) F t.ns k).2),⟨⟨aW,by rw[df.Ba];exact mz,jg⟩,by simp only;omega⟩,.refl,xQ,.cons rfl (.nil)⟩
  have dE:¬ d.k=4:=eO dE;refine a9.mk (λe=>?_) (λk6=>?_)
  ·have e:d.k=6:=dV e;have af1:=M7.one (by omega);have jV:0<d.ap.length:=by omega
   refine a9.mk (λcK=>?_) (λcK=>?_)
   ·have xH:decide (d.hi=0)=false:=by have xG:(!decide (d.hi=0))=true:=cK;simpa using xG
    obtain⟨gp,fe,e1⟩:=aj.bb.one (j:=0) (by omega) jV;obtain⟨k,ae,D4⟩:=M8 0 jV;rw[ae]at e1;have y8:iS (bp g.ds) d (d.ap.map (ff (bp g.ds) F t.ns))=(ff (bp g.ds) F t.ns k).2:=by
     have ei:d.ap=[(k:Int)]:=by
      match ab:d.ap,jV,af1,ae with
      |[a],_,_,ae=>simp only[oM]at ae;rw[ae]| _::_::_,_,h,_=>simp at h;omega
     rw[iS,eU bY,eU dE,xH,ei];simp
    rw[y8];refine dh.draw a4 rfl rfl rfl ?_;refine bu.mk gp 0 fe rfl (by omega) ?_;refine aZ.mk _ (e1 _) ?_;refine bd.whole _ (aR k (by omega) (by omega) s ar) ?_;rintro v J N -⟨bL,gq⟩;subst J;subst N;exact⟨_,_,.refl,rfl,rfl⟩
   ·have xH:decide (d.hi=0)=true:=by have xG:(!decide (d.hi=0))=false:=cK;simpa using xG
    have y8:iS (bp g.ds) d (d.ap.map (ff (bp g.ds) F t.ns))=[]:=by rw[iS,eU bY,eU dE,h6 e,xH];rfl
    rw[y8];exact⟨_,_,.refl,rfl,rfl⟩
  have k6:¬ d.k=6:=eO k6;have y8:iS (bp g.ds) d (d.ap.map (ff (bp g.ds) F t.ns))=(d.ap.map (ff (bp g.ds) F t.ns)).flatMap (·.2):=by rw[iS,eU bY,eU dE,eU k6];rfl
  rw[y8];refine dI.inv (ι:=Nat×df) (λx=>{ bn:=[(1,.val (.slice xa t.n xc)),(3,.val (M5 b1 b6 b7)),(4,.ref 4 0),(21,.val (.slice d.cW d.aT d.c5)),(22,.val (.int .i64 d.aT)),(23,.val (.int .i64 x.1))],cl:=[(4,t.cells)],c2:=I,dx:=jj b6 x.2::M1 }) (λx=>x.1<=d.aT/\x.2.m.length=64/\s.marks i ((d.ap.map (ff (bp g.ds) F t.ns)).flatMap (·.2))=x.2.marks i (((d.ap.drop x.1).map (ff (bp g.ds) F t.ns)).flatMap (·.2))) (λx=>d.aT-x.1) ?_ ?_;·exact⟨(0,s),⟨dO _,ar,rfl⟩,.refl,xQ,.cons rfl (.nil)⟩
  rintro⟨q,bP⟩⟨aK,mz,jg⟩;simp only at aK mz jg;refine a9.mk (λh=>?_) (λh=>?_)
  rotate_left
  ·have cV:d.ap.length<=q:=by have:¬ (q:Int)<(d.aT:Int):=eO h;omega
   rw[qe cV]at jg;refine⟨_,_,.refl,rfl,?_⟩;rw[jg];rfl
  have aW:q<d.aT:=by have:(q:Int)<(d.aT:Int):=dV h;omega
  have cy:q<d.ap.length:=by omega
  obtain⟨gp,fe,e1⟩:=aj.bb.one aW cy;obtain⟨k,ae,D4⟩:=M8 q cy;rw[ae]at e1;rw[e6 cy,cc,ae,jO,df.Vk]at jg;refine bu.mk gp q fe rfl aW ?_;refine aZ.mk _ (e1 _) ?_;refine bd.whole _ (aR k (by omega) (by omega) bP mz) ?_;rintro v J N -⟨bL,gq⟩;subst J;subst N;refine bi.mk _ (de (i:=q) (by omega)) ?_;exact⟨(q+1,bP.marks i (ff (bp g.ds) F t.ns k).2),⟨⟨aW,by rw[df.Ba];exact mz,jg⟩,by simp only;omega⟩,.refl,xQ,.cons rfl (.nil)⟩
end Go.V
