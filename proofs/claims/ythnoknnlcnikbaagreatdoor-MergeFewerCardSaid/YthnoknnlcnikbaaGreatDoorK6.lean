/- Part 6 of what the proofs of this seat share: the executor, data in memory, walks.
-/
import Derived.Test.YthnoknnlcnikbaaGreatDoorK5
import Derived.Lib.SliceRun
import Derived.Test.YthnoknnlcnikbaaGreatDoorK3
import Derived.Test.YthnoknnlcnikbaaGreatDoorK4
set_option linter.all false
set_option maxHeartbeats 8000000
set_option maxRecDepth 100000
namespace Go.V
open Go
def ng:=@Nat.not_lt_zero
def Fh:=@List.any_eq_true
def Sg:=@List.reverse_reverse
variable{x os p3 lo hi mx:Operand}{cN b1 g n t e gA j f n0:Nat}{AG b3 xs us:List Value}{a bC:Option Addr}{b:Bool}{args:List ap}{e7:Array Nat}{mu:TypeDesc}{arr:Array Value}{w w':World}{u mm:Value}{ut:Option dR}{aG lU c6:dR}{R α:Type}{cs:bm ap}{P:Program}{E:Env}{cR g':IntKind}{op:Op}{dst:Option Nat}{D bG D0:bS}{F c9:Fr}{call:ap->List ap->bz->Option (ap×bz)}{ops:List Oper}{β:Nat->Nat}{X:c1}{Q:Exit->Act->World->Prop}{Y:gU}{I dS I':aJ}{M M0 M':List aF}{row:List (Nat×Nat)}{ex:tv}{ps:List Nat}{fj body:Code}{iT:Loc}{G:GT}{pr:l8}
section
variable{X:c1}{G:GT}{pr:l8}{D:bS}{m m':bz}{F:Fr}{an:bm ap}{C:dO}{I:aJ}{M:List aF}{K:gr}{o:Oper}{v:ap}
def aa2(aO:cX X.P X.E)(ah:∀ d,o.dst=some d->d<X.n){s d e:Nat}(aC:o.op=.convert s d x){ej bW:Nat}{Sh:List Value}(av:X.E s=some ⟨cN,b1,AG,.slice e⟩)(fE:X.E d=some ⟨ej,bW,Sh,.string⟩)(ag:EX (X.E e)=true)
  {id off n:Nat} (h:Mb G m id off n=some (v,m')) (ad:∃ a c,D id=some a/\bH F x=.val (.slice (some ⟨a.b,a.o+off,none⟩) n c)) (hm:df (ef X G pr) D m I M)
  (k:r7 X G pr D m I M v m' o.dst F C K):bF X o F C I M K:=by
 unfold Mb at h;obtain⟨a,c,a6,ex⟩:=ad;obtain⟨aP,l,vs,aK,bt,aA,h⟩:=xb (u:=.pointer (some ⟨a.b,a.o+off,none⟩)) hm (by simp only[aW];exact⟨a,a6,rfl⟩) h;cases aK;obtain⟨cB,u7,h⟩:=cy h;cases h;have iK:=aaT u7 aA;have cQ:cB.length=n:=by have:=bt.2;obtain⟨_,_,_,_,_,ab⟩:=this;rw[<-ab,iK];simp
 subst iK;obtain⟨aG,he,kr⟩:∃ aG,X.E e=some aG/\aG.bQ=.int .u8:=by
  unfold EX at ag;split at ag;·rename_i h;exact⟨_,h,rfl⟩
  ·cases ag
 refine bF.alR aO aC ah av rfl he kr fE rfl ex cQ bt ?_;exact k D _ M bS.pe (by simp only[aW]) hm
def am4(aO:cX X.P X.E)(ah:∀ d,o.dst=some d->d<X.n){s d:Nat}(aC:o.op=.convert s d x)(h:Mc (ef X G pr) m s d (dv an x)=some (v,m'))(H:jn D F an o.op.operands.toList)(hm:df (ef X G pr) D m I M)
  (k:r7 X G pr D m I M v m' o.dst F C K):bF X o F C I M K:=by
 unfold Mc at h;rw[aC]at H;split at h
 ·rename_i aa ab ai;obtain⟨ag,h⟩:=fZ h;obtain⟨u,aK,a'⟩:=H.bH (x:=x) (by simp[Op.operands]) ai;obtain⟨a,a6,rfl⟩:=a'.s7;exact aa2 aO ah aC aa ab ag h ⟨a,_,a6,aK⟩ hm k
 ·rename_i aa ab ai;obtain⟨ag,h⟩:=fZ h;obtain⟨u,aK,a'⟩:=H.bH (x:=x) (by simp[Op.operands]) ai;obtain⟨a,a6,_,rfl⟩:=a'.vy;exact aa2 aO ah aC aa ab ag h ⟨a,_,a6,aK⟩ hm k
 ·rename_i aa ab ai;obtain⟨ag,h⟩:=fZ h;obtain⟨u,aK,a'⟩:=H.bH (x:=x) (by simp[Op.operands]) ai;cases h;simp only[aW]at a';subst a';obtain⟨aG,he,kr⟩:∃ aG,X.E _=some aG/\aG.bQ=.int .u8:=by
   unfold EX at ag;split at ag;·rename_i h;exact⟨_,h,rfl⟩
   ·cases ag
  refine bF.alS aO aC ah aa rfl he kr ab rfl aK ?_;exact k D _ M bS.pe (by simp only[aW]) hm
 ·cases h
def aa3(q:List UInt8):bO D (q.map λb=>ap.i .u8 (.ofNat b.toNat)) (lu ⟨q.toArray⟩):=by
 unfold lu;simp only
 induction q with
 |nil=>exact .nil| cons b q aN=>exact .cons (by simp only[aW];rfl) aN
def Mz{l:List Operand}{a b:ap}(h:od an l=some [a,b]):∃ x y,l=[x,y]/\dv an x=some a/\dv an y=some b:=by
 match l,h with
 |[],h=>simp[od]at h
 |[x],h=>
  simp only[od]at h;split at h;·rename_i aK a7;cases a7;cases h
  ·cases h
 |[x,y],h=>
  simp only[od]at h;split at h
  ·rename_i aK a7;split at a7
   ·rename_i ck dM;cases dM;cases a7;cases h;exact⟨x,y,rfl,aK,ck⟩
   ·cases a7
  ·cases h
 |x::y::z::l,h=>
  simp only[od]at h;split at h
  ·rename_i aK a7;split at a7
   ·rename_i ck dM;split at dM
    ·cases dM;cases a7;cases h
    ·cases dM
   ·cases a7
  ·cases h
def df.sub{M':List aF}(h:df (ef X G pr) D m I M)(av:∀ x∈M,x∈M'):df (ef X G pr) D m I M':=
 ⟨λid e a hi a6=>(h.iV id e a hi a6).mono (bS.le_refl D) (λx ad _=>av x ad),h.inj,h.jV,h.qW⟩
def am5(aO:cX X.P X.E)(ah:∀ d,o.dst=some d->d<X.n){args:Array Operand}(aC:o.op=.call { callee:=.builtin .copy,args:=args,argTypes:=e7 })(h:RH (ef X G pr) m e7.toList (od an args.toList)=some (v,m'))
  (H:jn D F an args.toList) (hm:df (ef X G pr) D m I M) (k:r7 X G pr D m I M v m' o.dst F C K):bF X o F C I M K:=by
 unfold RH at h;split at h
 ·rename_i t u id off n c q au aA;split at h
  ·rename_i sa s8 sz e oK;obtain⟨aG,he,h⟩:=cy h;obtain⟨ag,h⟩:=fZ h;rw[cw]at ag;obtain⟨m2,ab,-,-,ai⟩:=Se (Y:=ef X G pr) h;cases ab;obtain⟨x,y,nb,CP,am6⟩:=Mz aA;obtain⟨nf,ad,bg⟩:=H.bH (x:=x) (by rw[nb];simp) CP;obtain⟨kz,aE,gf⟩:=H.bH (x:=y) (by rw[nb];simp) am6;obtain⟨a,a6,rfl⟩:=bg.s7;have am7:=gf.str;subst am7;obtain⟨g,KA,a9,post,arr,T,ck,bb,iu,qs,⟨iW,cU,iT,kf,Ek,ax⟩,mE⟩:=ai hm (u:=.pointer (some ⟨a.b,a.o+off,none⟩)) (by simp only[aW];exact⟨a,a6,rfl⟩) (aa3 q);cases ck;have mF:M.Perm (⟨a.b,.cells arr T (0,0)⟩::(a9++post)):=by rw[bb];exact na
   have CQ:args=#[x,y]:=by apply gX;simpa using nb
   have CR:e7=#[t,u]:=by apply gX;simpa using au
   have dk:(⟨q.toArray⟩:ByteArray).size=q.length:=by simp[ByteArray.size]
   have kR:(lu ⟨q.toArray⟩).length=q.length:=by simp[lu]
   refine bF.WT aO (by rw[aC,CQ,CR]) ah oK rfl he (dJ ag.1) ad aE (by rw[dk];exact bK ag.2) (by rw[dk,<-kR];exact iu) mF ?_;rw[dk];have Si:(a9++(⟨a.b,.cells (cq arr.toList (a.o+off) (lu ⟨q.toArray⟩)).toArray T (0,0)⟩:aF)::post).Perm (⟨a.b,.cells (cq arr.toList (a.o+off) (lu ⟨q.toArray⟩)).toArray T (0,0)⟩::(a9++post)):=na;exact k D (.int .i64 q.length) _ bS.pe (by simp only[aW];rfl) (mE.sub λx ad=>Si.mem_iff.1 ad)
  ·cases h
 ·cases h
end
section
variable{P:Program}{w:World}
def aa4(t u ty e:Nat)(i:TypeInfo)(au:P.underlying t=some (.slice e))(hu:P.underlying u=some mu)(n5:∀ k,mu≠.int k)(hi:P.info? e=some i)
 {off c T:Nat} (ax:w.heap[g]?=some (.cells arr T (0,0))) {x:Value} {m:Nat} (aa:∀ v∈b3,v.oneCell'=true)
  (cQ:∀ w',(Builtin.lenOf x).run P w'=.ok m w') (eV:(Builtin.firstCells i.size m x).run P w=.ok b3.toArray w) (u2:n+m<=c) (iu:off+n*i.size+b3.length<=arr.size) :
  (Builtin.append_ #[t,u] ty #[.slice (some ⟨g,off,none⟩) n c,x]).run P w=.ok (.slice (some ⟨g,off,none⟩) (n+m) c) (w.setRow g (cq arr.toList (off+n*i.size) b3).toArray):=by
 have He:(match mu with | .int _=>true | _=>false)=false:=by cases mu<;>first | rfl | exact(n5 _ rfl).elim
 have fa:=run_storeCells_at P g (off+n*i.size) T b3 0 arr w ax (by simpa using iu) aa;simp only[pD]at fa;have Sj:(Addr.add ⟨g,off,none⟩ (n*i.size))=⟨g,off+n*i.size,none⟩:=eO _ rfl _;simp[Builtin.append_,run_underlying au,run_underlying hu,sizeOf,typeInfo,hi,cQ,u2,eV,Sj,fa,cq]
def am8(t u ty e:Nat)(i:TypeInfo)(z:Value)(au:P.underlying t=some (.slice e))(hu:P.underlying u=some mu)(n5:∀ k,mu≠.int k)(hi:P.info? e=some i)(bd:i.zero=some z)(qF:z.cells.size=i.size)
 {c:Nat} (hold:(Builtin.firstCells i.size n (.slice bC n c)).run P w.drew=.ok xs.toArray w.drew) (r8:xs.length=n*i.size) {x:Value} {m:Nat} (aA:b3.length=m*i.size)
  (cQ:∀ w',(Builtin.lenOf x).run P w'=.ok m w') (eV:(Builtin.firstCells i.size m x).run P w.drew=.ok b3.toArray w.drew) (u2:c<n+m) (b1:n+m<=maxLen) (bW:(n+m)*i.bytes<=140737488355328) :
  ∃ cap aU,(Builtin.append_ #[t,u] ty #[.slice bC n c,x]).run P w=.ok (.slice (some ⟨w.heap.size,0,none⟩) (n+m) cap) (w.drew.alloc (.cells (xs++b3++aU).toArray e (0,0)))/\n+m<=cap/\cap<=maxLen/\(xs++b3++aU).length=cap*i.size:=by
 have He:(match mu with | .int _=>true | _=>false)=false:=by cases mu<;>first | rfl | exact(n5 _ rfl).elim
 have aD:¬ (n+m<=c):=by omega
 have iN:n+m<=9223372036854775807:=by simp only[maxLen]at b1;exact b1
 have BT:¬ (9223372036854775807<((n:Int)+(m:Int))):=by omega
 have BU:¬ (281474976710656<Builtin.nextslicecap (n+m) c*i.bytes):=by have:=growslice_fits (by omega:c<n+m) bW;omega
 have c8:=grownCap_ge w (n+m) c e;have lX:grownCap w (n+m) c e<=maxLen:=grownCap_le_maxLen w (n+m) c e b1;refine⟨grownCap w (n+m) c e,(Builtin.zeroCells z.cells (grownCap w (n+m) c e-(n+m))).toList,?_,c8,lX,?_⟩
 ·simp[Builtin.append_,run_underlying au,run_underlying hu,sizeOf,typeInfo,zeroValue,hi,bd,cQ,aD,BT,BU,Question.forced,eV,hold,newRow,grownCap];congr 2;apply gX;simp
 ·rw[cm,cm,r8,aA,x4,size_zeroCells,qF,<-lT,<-lT];congr 1;omega
end
section
variable{X:c1}{G:GT}{pr:l8}{D:bS}{m m':bz}{F:Fr}{an:bm ap}{C:dO}{I:aJ}{M:List aF}{K:gr}{o:Oper}{v:ap}
def cY.MA{aP:Addr}{vs:List Value}(h:cY I M aP n vs)(lh:eN I M w)(j:Nat)(v:Value)(ak:vs[j]?=some v):w.cell? (aP.add j)=some v:=by
 obtain⟨de,cs,T,an,fh,aj,aA⟩:=h;rw[eO _ de,ts (fh.heap lh)];rw[<-aj,k9]at ak;split at ak
 ·rw[nw]at ak;simpa using ak
 ·cases ak
def am9{x:ap}{k:Nat}{K:List ap->Option R}{r:R}(h:EY G m.t x aG.size K=some r)(av:w6 ut aG x=true)(ad:aW D x u)(hm:df (ef X G pr) D m I M)(ae:s6 x=some k)(aw:k≠0) :
  ∃ l vs,K l=some r/\bO D l vs/\(∀ w',(Builtin.lenOf u).run X.P w'=.ok k w')/\(∀ w,eN I M w->(Builtin.firstCells aG.size k u).run X.P w=.ok vs.toArray w)/\vs.length=k*aG.size /\
   ((∃ a b z e,ut=some ⟨a,b,z,.slice e⟩)\/∃ a b z,ut=some ⟨a,b,z,.string⟩):=by
 have Sk:(∃ a b z e,ut=some ⟨a,b,z,.slice e⟩)\/∃ a b z,ut=some ⟨a,b,z,.string⟩:=by
  unfold w6 at av;split at av<;>first | exact .inl ⟨_,_,_,_,rfl⟩ | exact .inr ⟨_,_,_,rfl⟩ | cases av
 cases x<;>simp only[EY]at h<;>first | cases h | skip
 case sn=>simp[s6,w5]at ae;exact(aw ae.symm).elim
 case so=>simp[s6,w5]at ae;exact(aw ae.symm).elim
 case sl id off n c=>
  simp only[s6,w5,kJ]at ae;subst ae;obtain⟨a,a6,rfl⟩:=ad.s7;obtain⟨aP,l,vs,aK,bt,aA,h⟩:=xb (u:=.pointer (some ⟨a.b,a.o+off,none⟩)) hm (by simp only[aW];exact⟨a,a6,rfl⟩) h;cases aK;have AH:=bt;obtain⟨_,_,_,_,_,_,cQ⟩:=AH;exact⟨l,vs,h,aA,λ_=>rfl,λw hw=>run_firstCells_some (P:=X.P) w aG.size n _ n c vs cQ (λj v ak=>bt.MA hw j v ak),cQ,Sk⟩
 case sx id off e n=>
  simp only[s6,w5,kJ]at ae;subst ae;obtain⟨a,a6,_,rfl⟩:=ad.vy;obtain⟨aP,l,vs,aK,bt,aA,h⟩:=xb (u:=.pointer (some ⟨a.b,a.o+off,none⟩)) hm (by simp only[aW];exact⟨a,a6,rfl⟩) h;cases aK;have AH:=bt;obtain⟨_,_,_,_,_,_,cQ⟩:=AH;exact⟨l,vs,h,aA,λ_=>rfl,λw hw=>run_firstCells_some (P:=X.P) w aG.size n _ n _ vs cQ (λj v ak=>bt.MA hw j v ak),cQ,Sk⟩
 case s q=>
  simp only[s6,kJ]at ae;subst ae;have ana:aG.size=1:=by
   unfold w6 at av;split at av<;>first | exact dJ av | (rename_i e;cases e) | cases av
  have:=ad.str;subst this;have aM:(⟨q.toArray⟩:ByteArray).size=q.length:=by simp[ByteArray.size]
  refine⟨_,lu ⟨q.toArray⟩,h,aa3 q,λw=>?_,λw hw=>?_,by simp[lu,ana],Sk⟩;·show Result.ok _ _=_;rw[aM]
  ·have:=Wd w aG.size (P:=X.P) ⟨q.toArray⟩;rw[aM]at this;exact this
def Sl(aO:cX X.P X.E)(ah:∀ d,o.dst=some d->d<X.n){s:Operand}{u:Nat}(aC:o.op=.call { callee:=.builtin .append,args:=#[s,x],argTypes:=#[t,u] })
 (au:X.E t=some ⟨cN,b1,AG,.slice e⟩) (hu:X.E u=some lU) (fK:∀ k,lU.bQ≠.int k) (he:X.E e=some aG)
 {c k:Nat} {Sm:Value} (av:bH F s=.val (.slice bC n c)) (ad:bH F x=.val Sm) (r8:xs.length=n*aG.size) (oL:b3.length=k*aG.size) (aa:fJ b3=true)
  (cQ:∀ w',(Builtin.lenOf Sm).run X.P w'=.ok k w') (eV:∀ w,eN I M w->(Builtin.firstCells aG.size k Sm).run X.P w=.ok b3.toArray w)
  (hold:∀ w,eN I M w->(Builtin.firstCells aG.size n (.slice bC n c)).run X.P w=.ok xs.toArray w) (b1:n+k<=maxLen) (bW:(n+k)*aG.bytes<=140737488355328)
  (anb:n+k<=c->∃ g off T arr a9 post,bC=some ⟨g,off,none⟩/\M=a9++⟨g,.cells arr T (0,0)⟩::post/\off+n*aG.size+b3.length<=arr.size /\ K (put o.dst (.val (.slice bC (n+k) c)) F) C I (a9++⟨g,.cells (cq arr.toList (off+n*aG.size) b3).toArray T (0,0)⟩::post))
  (anc:c<n+k->∀ b cap aU,I b=none->(∀ y∈M,y.num≠b)->n+k<=cap->cap<=maxLen->(xs++b3++aU).length=cap*aG.size ->
   K (put o.dst (.val (.slice (some ⟨b,0,none⟩) (n+k) cap)) F) C I (⟨b,.cells (xs++b3++aU).toArray e (0,0)⟩::M)):bF X o F C I M K:=by
 refine⟨λa w Q ⟨β,aX⟩=>?_⟩;obtain⟨inf,z,hi,fv,hW,ik,j4⟩:=(aO _ _ he).inf;obtain⟨d,fM,fk⟩:=(aO _ _ hu).ft;obtain⟨g2,iO,kS⟩:=(aO _ _ au).ft;have oO:g2=.slice e:=by cases g2<;>simp_all[fs]
 subst oO;have qF:z.cells.size=inf.size:=by rw[fv,<-(aO _ _ he).len,<-j4];simp
 have es:=dh aX.an av;have ex:=dh aX.an ad;have n5:∀ k,d≠.int k:=λk cU=>fK k (by rw[<-fk,cU];rfl);rw[<-fv]at r8 oL hold eV;by_cases u2:n+k<=c
 ·obtain⟨g,off,T,arr,a9,post,rfl,bb,iu,ae⟩:=anb u2;rw[<-fv]at iu ae;have ax:w.heap[g]?=some (.cells arr T (0,0)):=aX.holds.m ⟨g,.cells arr T (0,0)⟩ (by rw[bb];simp);have e':=aa4 (P:=X.P) (w:=w) t u o.type e inf iO fM n5 hi ax (zp aa) cQ (eV w aX.holds) u2 iu;refine iJ (by rw[aC];simp) ?_ ⟨_,_,_,_,⟨β,cL.put (x:=.val (.slice (some ⟨g,off,none⟩) (n+k) c)) (aX.xU bb) ah rfl⟩,ae⟩;unfold execOp;simp only[aC,resolve,invoke,builtin,cu,c7,bY,rz,ca,hH,es,ex,e']
 ·have lh:eN I M w.drew:=aX.holds.heap rfl;obtain⟨cap,aU,e',ab,ai,aL⟩:=am8 (P:=X.P) (w:=w) t u o.type e inf z iO fM n5 hi ik qF (hold w.drew lh) r8 oL cQ (eV w.drew lh) (by omega) b1 (by rw[hW];exact bW);have m3:cL X β a w.drew F C I M:=aX.world rfl;rw[fv]at aL;refine iJ (by rw[aC];simp) ?_ ⟨_,_,_,_,⟨β,cL.put (x:=.val (.slice (some ⟨w.heap.size,0,none⟩) (n+k) cap)) (m3.n2 (.cells (xs++b3++aU).toArray e (0,0))) ah rfl⟩,anc (by omega) w.heap.size cap aU aX.holds.sA aX.holds.rk ab ai aL⟩;unfold execOp;simp only[aC,resolve,invoke,builtin,cu,c7,bY,rz,ca,hH,es,ex,e']
def aa5{u:Nat}{x:ap}(h:w6 (X.E u) aG x=true):∃ lU,X.E u=some lU/\∀ k,lU.bQ≠.int k:=by
 unfold w6 at h;split at h<;>first | (cases h;done) | (rename_i e;exact⟨_,e,by simp⟩) | (rename_i e _;exact⟨_,e,by simp⟩) | (rename_i e _ _;exact⟨_,e,by simp⟩)
def ane{s:ap}(h:EZ s=true)(av:aW D s u):∃ a n c,u=.slice a n c/\n<=c:=by
 cases s<;>simp only[EZ,k']at h
 case sn=>exact⟨_,_,_,av.CM,b2 _⟩
 case so=>obtain⟨a,c,rfl⟩:=av.Mm;exact⟨_,_,_,rfl,dj _⟩
 case sl=>obtain⟨a,_,rfl⟩:=av.s7;exact⟨_,_,_,rfl,bK h⟩
 case sx=>obtain⟨a,_,bk,rfl⟩:=av.vy;exact⟨_,_,_,rfl,by omega⟩
def anf{x:ap}(av:w6 ut aG x=true)(ad:aW D x u)(ae:s6 x=some 0):(∃ b c,u=.slice b 0 c)\/u=.string .empty:=by
 cases x<;>simp[s6,w5]at ae
 case sn=>exact .inl ⟨_,_,ad.CM⟩
 case so=>obtain⟨a,c,rfl⟩:=ad.Mm;exact .inl ⟨_,_,rfl⟩
 case sl=>subst ae;obtain⟨a,_,rfl⟩:=ad.s7;exact .inl ⟨_,_,rfl⟩
 case sx=>subst ae;obtain⟨a,_,_,rfl⟩:=ad.vy;exact .inl ⟨_,_,rfl⟩
 case gs=>subst ae;exact .inl ⟨_,_,ad.RY⟩
 case s=>subst ae;exact .inr ad.str
noncomputable abbrev Sn(X:c1)(G:GT)(m:bz)(s x:ap)(aG:dR)(az e:Nat):List ap->Option (ap×bz):=λl=>bx (some az) none λk=>b4 (Nat.beq k 0) (b4 (EZ s) (some (s,m)) none) (b4 (l.all ap.one) (Ir G m s l k aG.size aG.bytes e) none)
def ang(aO:cX X.P X.E)(ah:∀ d,o.dst=some d->d<X.n){u:Nat}(aC:o.op=.call { callee:=.builtin .append,args:=#[os,p3],argTypes:=#[t,u] })
 (au:X.E t=some ⟨cN,b1,AG,.slice e⟩) {s x:ap} (vC:w6 (X.E u) aG x=true) (he:X.E e=some aG) (ae:s6 x=some 0) {us:Value}
  (es:bH F os=.val us) (gs:aW D s us) (ex:bH F p3=.val mm) (AI:aW D x mm) (h:EY G m.t x aG.size (Sn X G m s x aG 0 e)=some (v,m'))
  (hm:df (ef X G pr) D m I M) (k:r7 X G pr D m I M v m' o.dst F C K):bF X o F C I M K:=by
 have ab:∃ l,Sn X G m s x aG 0 e l=some (v,m'):=by
  cases x<;>simp only[EY]at h<;>first | cases h | exact⟨_,h⟩ | skip
  case sl=>obtain⟨a,a6,rfl⟩:=AI.s7;obtain⟨_,l,_,_,_,_,h⟩:=xb (u:=.pointer (some ⟨a.b,a.o+_,none⟩)) hm (by simp only[aW];exact⟨a,a6,rfl⟩) h;exact⟨l,h⟩
  case sx=>obtain⟨a,a6,_,rfl⟩:=AI.vy;obtain⟨_,l,_,_,_,_,h⟩:=xb (u:=.pointer (some ⟨a.b,a.o+_,none⟩)) hm (by simp only[aW];exact⟨a,a6,rfl⟩) h;exact⟨l,h⟩
 obtain⟨l,ab⟩:=ab;have ai:b4 (EZ s) (some (s,m)) none=some (v,m'):=ab;obtain⟨ao,ai⟩:=fZ ai;cases ai;obtain⟨a,n,c,rfl,m0⟩:=ane ao gs;obtain⟨lU,hu,fK⟩:=aa5 vC;exact bF.PN aO aC ah au rfl hu fK he es m0 ex (anf vC AI ae) (k D _ M bS.pe gs hm)
def anh(aO:cX X.P X.E)(ah:∀ d,o.dst=some d->d<X.n){u:Nat}(aC:o.op=.call { callee:=.builtin .append,args:=#[os,p3],argTypes:=#[t,u] })
 (au:X.E t=some ⟨cN,b1,AG,.slice e⟩) (hu:X.E u=some lU) (fK:∀ k,lU.bQ≠.int k) (he:X.E e=some aG) {us:Value} {id off n c az:Nat}
  (es:bH F os=.val us) (gs:aW D (.sl id off n c) us) (ex:bH F p3=.val mm) {l:List ap} {vs:List Value} (h:RC G m id off n c l az aG.size e=some (v,m')) (iN:n+az<=maxLen) (iC:(n+az)*aG.bytes<=140737488355328)
  (aA:bO D l vs) (sW:vs.length=az*aG.size) (aa:fJ vs=true) (cQ:∀ w',(Builtin.lenOf mm).run X.P w'=.ok az w') (eV:∀ w,eN I M w->(Builtin.firstCells aG.size az mm).run X.P w=.ok vs.toArray w)
  (hm:df (ef X G pr) D m I M) (k:r7 X G pr D m I M v m' o.dst F C K):bF X o F C I M K:=by
 have IP:∀ {q:List Value} {c:Nat},q.length=c*aG.size->∀ i,(ef X G pr).E e=some i->q.length=c*i.size:=λaM i hi=>by have:X.E e=some i:=hi;rw[he]at this;cases this;exact aM
 obtain⟨a,a6,rfl⟩:=gs.s7;unfold RC at h;by_cases af:n+az<=c
 ·have ag:Nat.ble (Nat.add n az) c=true:=EL af;rw[ag]at h;have bj:yJ m (.p id (Nat.add off (Nat.mul n aG.size))) l (λm=>some (ap.sl id off (Nat.add n az) c,m))=some (v,m'):=h;obtain⟨m2,ab,-,-,ai⟩:=Se (Y:=ef X G pr) bj;cases ab;obtain⟨g,KA,a9,post,arr,T,aK,bb,iu,qs,⟨iW,cU,iT,kf,Ek,ax⟩,mE⟩:=ai hm (u:=.pointer (some ⟨a.b,a.o+(off+n*aG.size),none⟩)) (by simp only[aW];exact⟨a,a6,rfl⟩) aA;cases aK;refine⟨λac w Q ⟨β,aX⟩=>?_⟩;obtain⟨inf,z,hi,fv,hW,ik,j4⟩:=(aO _ _ he).inf;obtain⟨d,fM,fk⟩:=(aO _ _ hu).ft;obtain⟨g2,iO,kS⟩:=(aO _ _ au).ft;have oO:g2=.slice e:=by cases g2<;>simp_all[fs]
  subst oO;have ax:w.heap[a.b]?=some (.cells arr T (0,0)):=aX.holds.m ⟨a.b,.cells arr T (0,0)⟩ (by rw[bb];simp);have vB:=dh aX.an es;have CS:=dh aX.an ex;rw[<-fv]at eV;have e':=aa4 (P:=X.P) (w:=w) t u o.type e inf iO fM (λk cU=>fK k (by rw[<-fk,cU];rfl)) hi ax (zp aa) cQ (eV w aX.holds) af (off:=a.o+off) (by rw[fv];omega);rw[fv,tl]at e';have m3:=aX.xU (cs':=(cq arr.toList (a.o+(off+n*aG.size)) vs).toArray) bb;refine iJ (by rw[aC];simp) ?_ ⟨_,_,_,_,⟨β,cL.put (x:=.val (.slice (some ⟨a.b,a.o+off,none⟩) (n+az) c)) m3 ah rfl⟩,?_⟩;·unfold execOp;simp only[aC,resolve,invoke,builtin,cu,c7,bY,rz,ca,hH,vB,CS,e']
  ·exact k D _ _ bS.pe (by simp only[aW];exact⟨a,a6,rfl⟩) mE
 ·have ag:Nat.ble (Nat.add n az) c=false:=by
   cases ag:Nat.ble (Nat.add n az) c with
   |false=>rfl| true=>exact absurd (bK ag) af
  rw[ag]at h;have bj:uf G m.t (.p id off) (Nat.mul n aG.size) (λdK=>vw m (dK++l) e λid m=>some (ap.sx id 0 0 (Nat.add n az),m))=some (v,m'):=h;obtain⟨aP,dK,xs,aK,bt,eZ,ab⟩:=xb (u:=.pointer (some ⟨a.b,a.o+off,none⟩)) hm (by simp only[aW];exact⟨a,a6,rfl⟩) bj;cases aK;obtain⟨m2,b',aD,dZ⟩:=Sa (Y:=ef X G pr) ab;cases b';have AH:=bt;obtain⟨_,_,_,_,_,_,kb⟩:=AH;refine Sl aO ah aC au hu fK he es ex kb sW aa cQ eV (λw hw=>run_firstCells_some (P:=X.P) w aG.size n _ n c xs kb (λj v ak=>bt.MA hw j v ak)) iN iC (λfA=>(af fA).elim) λ_ b cap aU bB aB yN yO r9=>?_;refine k _ _ _ bS.Fe ?_ (dZ aU hm aB (eZ.append aA) (IP r9) yO);simp only[aW];exact⟨_,bS.p8 _ _ _,by simpa using yN,by simp⟩
def ani(aO:cX X.P X.E)(ah:∀ d,o.dst=some d->d<X.n){u:Nat}(aC:o.op=.call { callee:=.builtin .append,args:=#[os,p3],argTypes:=#[t,u] })
 (au:X.E t=some ⟨cN,b1,AG,.slice e⟩) (hu:X.E u=some lU) (fK:∀ k,lU.bQ≠.int k) (he:X.E e=some aG) {us:Value} {id n fN az:Nat}
  (es:bH F os=.val us) (gs:aW D (.sx id 0 0 n) us) (ex:bH F p3=.val mm) (ax:m.t.get id=some (.cells cs e fN)) {l:List ap} {vs:List Value} (h:RD m id n cs fN l az aG.size e=some (v,m')) (iN:n+az<=maxLen) (iC:(n+az)*aG.bytes<=140737488355328)
  (aA:bO D l vs) (sW:vs.length=az*aG.size) (aa:fJ vs=true) (cQ:∀ w',(Builtin.lenOf mm).run X.P w'=.ok az w') (eV:∀ w,eN I M w->(Builtin.firstCells aG.size az mm).run X.P w=.ok vs.toArray w)
  (hm:df (ef X G pr) D m I M) (k:r7 X G pr D m I M v m' o.dst F C K):bF X o F C I M K:=by
 obtain⟨a,a6,bk,rfl⟩:=gs.vy;have qq:=hm.iV _ _ _ ax a6;obtain⟨arr,yP,bb,dk,ao,ae,iA⟩:=qq;unfold RD at h;obtain⟨AB,h⟩:=fZ h;have aa6:n*aG.size<=fN:=bK AB;obtain⟨t1,ab,ai⟩:=bm.o7 (none:Option fx) m.t id;rw[ab]at h;obtain⟨cs',aL,bq⟩:=bm.yM l cs (Nat.mul n aG.size);have bj:bm.yF l cs (Nat.mul n aG.size) (λcs=>CG (⟨t1,m.n⟩:bz) (.cells cs e (Nat.mul (Nat.add n az) aG.size)) λid m=>some (ap.sx id 0 0 (Nat.add n az),m))=some (v,m'):=h;rw[aL]at bj;obtain⟨t2,b',dZ⟩:=IM bj;cases dZ;have j9:∀ i e8,t1.get i=some e8->i≠id/\m.t.get i=some e8:=λi e8 hi=>by
  rcases ai i e8 hi with⟨_,eX⟩ | eX;·cases eX
  ·exact eX
 have aa7:df (ef X G pr) D ⟨t1,m.n⟩ I M:=⟨λi e8 b hi=>hm.iV i e8 b (j9 i e8 hi).2,λi gV e8 AJ b jb hi cG=>hm.inj i gV e8 AJ b jb (j9 i e8 hi).2 (j9 gV AJ cG).2,hm.jV,hm.qW⟩;have aa8:arr.size=a.c*aG.size:=by have:=ae aG he;rw[yP,dp]at this;exact this
 have Ml:=aA.len;have r8:((arr.toList.take (n*aG.size)).length=n*aG.size):=by rw[fR,x4];omega
 have HR:∀ j,j<n*aG.size->∀ v,cs.get j=some v->∃ x,(arr.toList.take (n*aG.size))[j]?=some x/\aW D v x:=λj ak v aj=>by obtain⟨x,a',bg⟩:=ao j v (by omega) aj;rw[yP,dp]at a';exact⟨x,by rw[k9,bT ak];simpa using a',bg⟩
 have aa9:∀ (bG:bS) (M':List aF) (b fp:Nat) (bo:List Value),D.le bG->(⟨b,.cells (arr.toList.take (n*aG.size)++vs++bo).toArray e (0,0)⟩:aF)∈M'->(arr.toList.take (n*aG.size)++vs++bo).length=fp*aG.size->fp<=maxLen ->
   lF bG X.E M' ⟨b,0,fp⟩ (.cells cs' e (Nat.mul (Nat.add n az) aG.size)):=by
  intro bG M' b fp bo dw yQ anj ank;have hmul:(n+az)*aG.size=n*aG.size+az*aG.size:=lT _ _ _;refine .cells _ rfl yQ ?_ (λi v hi vA=>?_) (λi hi=>?_) ank;·show 0+(n+az)*aG.size<=_;rw[tz,cm,cm,r8,sW];omega
  ·have cG:i<n*aG.size+az*aG.size:=by have:i<(n+az)*aG.size:=hi;omega
   simp only[dp,BH];rcases bq i v vA with⟨a',bg⟩ | ⟨a',bg⟩;·have MB:n*aG.size<=i:=a';obtain⟨x,b5,gf⟩:=aA.get (i:=i-n*aG.size) bg;refine⟨x,?_,gf.mono dw⟩;rw[ec,lx (by omega),r8,qu (by omega)];exact b5
   ·have MB:i<n*aG.size:=by
     rcases a' with a' | a';·exact a'
     ·have:n*aG.size+l.length<=i:=a';omega
    obtain⟨x,b5,gf⟩:=HR i MB v bg;refine⟨x,?_,gf.mono dw⟩;rw[ec,qu (by omega)];exact b5
  ·rw[he]at hi;cases hi;simpa using anj
 refine Sl aO ah aC au hu fK he es ex r8 sW aa cQ eV (λw hw=>?_) iN iC (λaf=>?_) λ_ b cap aU bB aB yN yO r9=>?_
 ·refine run_firstCells_some (P:=X.P) w aG.size n _ n _ _ r8 λj v ak=>?_;rw[eO _ rfl,ts (hw.m _ bb)];rw[k9]at ak;split at ak
  ·rw[yP];simpa using ak
  ·cases ak
 ·
  obtain⟨a9,post,de⟩:=vt bb;rw[Ep]at af;have iu:a.o+0+n*aG.size+vs.length<=arr.size:=by have dT:=qn aG.size af;rw[lT]at dT;rw[yP,aa8,sW];omega
  refine⟨a.b,a.o+0,e,arr,a9,post,rfl,de,iu,?_⟩;have aba:cq arr.toList (a.o+0+n*aG.size) vs=arr.toList.take (n*aG.size)++vs++arr.toList.drop (n*aG.size+vs.length):=by rw[yP];simp only[cq,dp]
  rw[aba];have nC:∀ q∈M,q.num≠a.b->q∈a9++(⟨a.b,.cells (arr.toList.take (n*aG.size)++vs++arr.toList.drop (n*aG.size+vs.length)).toArray e (0,0)⟩:aF)::post:=λq aM aD=>by
   rw[de]at aM;rcases cC.1 aM with aM | aM;·exact cC.2 (.inl aM)
   ·rcases eA.1 aM with rfl | aM
    ·exact(aD rfl).elim
    ·exact cC.2 (.inr (nS _ aM))
  have IQ:∀ i e8 b,t1.get i=some e8->D i=some b->b.b≠a.b:=λi e8 b hi ag CT=>(j9 i e8 hi).1 (hm.inj _ _ _ _ _ _ (j9 i e8 hi).2 ax ag a6 CT);refine k _ _ _ bS.Fe ?_ (aa7.step (m:=⟨t1,m.n⟩) (j:=m.n) (λi e8 hi=>(b' i e8 hi).imp (λq=>⟨q.1,pb q.2⟩) λq=>q) (D.p8 _ ⟨a.b,0,a.c⟩) (bS.Az _ hm.fresh) (λi hi=>by unfold bS.set;rw[bP hi]) (λi b ag=>?_) (λ_ _ h=>h) (λi e8 b bD hi ag q aM aD=>nC q aM (by rw[aD];exact IQ i e8 b hi ag)) (aa9 _ _ _ _ (arr.toList.drop (n*aG.size+vs.length)) (bS.Az _ hm.fresh) (by simp) ?_ iA) λi e8 b bD hi ag=>IQ i e8 b hi ag);·simp only[aW];exact⟨_,bS.p8 _ _ _,by simpa using af,by rw[yP];rfl⟩
  ·unfold bS.set at ag;split at ag
   ·show i<m.n+1;omega
   ·have:=hm.jV _ _ ag;show i<m.n+1;omega
  ·rw[<-aba,Sd (by simpa using iu)];simpa using aa8
 ·
  refine k _ _ _ bS.Fe ?_ (aa7.new (m:=⟨t1,m.n⟩) (a:=⟨b,0,cap⟩) b' aB (aa9 _ _ _ _ _ (bS.Az _ hm.fresh) (by simp) r9 yO));simp only[aW];exact⟨_,bS.p8 _ _ _,by simpa using yN,by simp⟩
def anl(aO:cX X.P X.E)(ah:∀ d,o.dst=some d->d<X.n){u:Nat}(aC:o.op=.call { callee:=.builtin .append,args:=#[os,p3],argTypes:=#[t,u] })
 (au:X.E t=some ⟨cN,b1,AG,.slice e⟩) {s x:ap} (vC:w6 (X.E u) aG x=true) (he:X.E e=some aG) {az:Nat} (ae:s6 x=some az) (aw:az≠0) {us:Value}
  (es:bH F os=.val us) (gs:aW D s us) (ex:bH F p3=.val mm) (AI:aW D x mm) (h:EY G m.t x aG.size (Sn X G m s x aG az e)=some (v,m'))
  (hm:df (ef X G pr) D m I M) (k:r7 X G pr D m I M v m' o.dst F C K):bF X o F C I M K:=by
 obtain⟨l,vs,ab,aA,cQ,eV,sW,_⟩:=am9 (ut:=X.E u) h vC AI hm ae aw;have ai:b4 (Nat.beq az 0) (b4 (EZ s) (some (s,m)) none) (b4 (l.all ap.one) (Ir G m s l az aG.size aG.bytes e) none)=some (v,m'):=ab;rw[hF aw]at ai;have aL:b4 (l.all ap.one) (Ir G m s l az aG.size aG.bytes e) none=some (v,m'):=ai;obtain⟨qs,aL⟩:=fZ aL;have aa:=aA.one qs;obtain⟨lU,hu,fK⟩:=aa5 vC;have IP:∀ {q:List Value} {c:Nat},q.length=c*aG.size->∀ i,(ef X G pr).E e=some i->q.length=c*i.size:=λaM i hi=>by have:X.E e=some i:=hi;rw[he]at this;cases this;exact aM
 cases s<;>simp only[Ir]at aL<;>first | cases aL | skip
 case sn=>
  obtain⟨ag,bq⟩:=fZ aL;rw[cw]at ag;obtain⟨m2,b',aD,dZ⟩:=Sa (Y:=ef X G pr) bq;cases b';have mG:=gs.CM;subst mG;have iN:0+az<=maxLen:=by rw[dp];exact bK ag.2
  have iC:(0+az)*aG.bytes<=140737488355328:=by rw[dp];exact bK ag.1
  refine Sl aO ah aC au hu fK he (n:=0) (c:=0) (xs:=[]) es ex (by simp) sW aa cQ eV (λw _=>by simp[run_firstCells_none]) iN iC (λaf=>by omega) λ_ b cap aU bB aB yN yO r9=>?_;refine k _ _ _ bS.Fe ?_ (dZ aU hm aB aA (IP r9) yO);simp only[aW];exact⟨_,bS.p8 _ _ _,by simpa using yN,by simp⟩
 case sl=>
  obtain⟨ag,bq⟩:=fZ aL;rw[cw]at ag;exact anh aO ah aC au hu fK he es gs ex bq (bK ag.2) (bK ag.1) aA sW aa cQ eV hm k
 case sx=>
  split at aL;·rename_i ax;obtain⟨ag,bq⟩:=fZ aL;simp only[cw]at ag;obtain⟨⟨fF,fB⟩,l0,LC,LD⟩:=ag;have d1:=dJ fF;have d2:=dJ fB;have d3:=dJ l0;subst d1;subst d2;subst d3;exact ani aO ah aC au hu fK he es gs ex ax bq (bK LD) (bK LC) aA sW aa cQ eV hm k
  ·cases aL
def anm(aO:cX X.P X.E)(ah:∀ d,o.dst=some d->d<X.n){args:Array Operand}(aC:o.op=.call { callee:=.builtin .append,args:=args,argTypes:=e7 })(h:RG (ef X G pr) m e7.toList (od an args.toList)=some (v,m'))
  (H:jn D F an args.toList) (hm:df (ef X G pr) D m I M) (k:r7 X G pr D m I M v m' o.dst F C K):bF X o F C I M K:=by
 unfold RG at h;split at h
 ·rename_i t u s x au aA;split at h
  ·rename_i sa s8 sz e oK;obtain⟨aG,he,h⟩:=cy h;obtain⟨vC,h⟩:=fZ h;obtain⟨os,p3,nb,gj,CP⟩:=Mz aA;obtain⟨us,es,gs⟩:=H.bH (x:=os) (by rw[nb];simp) gj;obtain⟨mm,ex,AI⟩:=H.bH (x:=p3) (by rw[nb];simp) CP;have CQ:args=#[os,p3]:=by apply gX;simpa using nb
   have CR:e7=#[t,u]:=by apply gX;simpa using au
   have rF:o.op=.call { callee:=.builtin .append,args:=#[os,p3],argTypes:=#[t,u] }:=by rw[aC,CQ,CR]
   cases ae:s6 x with
   |none=>
    exfalso;unfold w6 at vC;split at vC<;>first | (cases vC;done) | (simp[s6,w5]at ae;done)
   |some az=>
    rw[ae]at h;by_cases aw:az=0;·subst aw;exact ang aO ah rF oK vC he ae es gs ex AI h hm k
    ·exact anl aO ah rF oK vC he ae aw es gs ex AI h hm k
  ·cases h
 ·cases h
end
section
variable{X:c1}{β:Nat->Nat}{F:Fr}{C:dO}{I:aJ}{M:List aF}{o:Oper}{K:gr}
def So(aO:cX P E)(au:E t=some c6)(dz:c6.bQ=.slice e):P.underlying t=some (.slice e):=by
 obtain⟨g2,iO,kS⟩:=(aO _ _ au).ft;have oO:g2=.slice e:=by rw[dz]at kS;cases g2<;>simp_all[fs]
 rw[iO,oO]
def fW.Sp(aO:cX P E){y:Operand}(au:E t=some c6)(dz:c6.bQ=.slice e){c c':Nat}{V:Value->Prop}{other:Prop}
  (h:V (.bool a.isNone)):fW P .eql t x y (.val (.slice a n c)) (.val (.slice none gA c')) V other:=by
 have aa:=So aO au dz;refine .mk _ _ _ rfl rfl (λw=>?_) h;have aK:(eqGuard .eql t x y (.slice a n c) (.slice none gA c')).run P w=.ok () w:=by unfold eqGuard;rfl
 simp only[cu,aK,bY];exact Lib.run_eql_slice_nil w t e a n c gA c' aa
def bF.slice3(aO:cX X.P X.E)(aC:o.op=.slice t x (some lo) (some hi) (some mx))(ah:∀ d,o.dst=some d->d<X.n)
 (au:X.E t=some c6) (dz:c6.bQ=.slice e) (he:X.E e=some aG) {aP:Option Addr} {c:Nat} (l h m:Nat) {eK:IntKind}
  (ad:bH F x=.val (.slice aP n c)) (eZ:bH F lo=.val (.int eK (l:Nat))) (gI:bH F hi=.val (.int cR (h:Nat))) (iA:bH F mx=.val (.int g' (m:Nat)))
  (aa:l<=h) (ab:h<=m) (ai:m<=c) (k:K (put o.dst (.val (.slice (if m=l then aP else aP.map (·.add (l*aG.size))) (h-l) (m-l))) F) C I M):bF X o F C I M K:=by
 refine⟨λa w Q ⟨β,aX⟩=>?_⟩;have hu:=So aO au dz;refine iJ (by rw[aC];simp) (v:=.slice (if m=l then aP else aP.map (·.add (l*aG.size))) (h-l) (m-l)) (w':=w) ?_ ⟨_,_,_,_,⟨β,cL.put (x:=.val (.slice (if m=l then aP else aP.map (·.add (l*aG.size))) (h-l) (m-l))) aX ah rfl⟩,k⟩;have ex:=dh aX.an ad;have aK:=dh aX.an eZ;have a7:=dh aX.an gI;have ck:=dh aX.an iA;simp only[execOp,aC,Instr.sliceAt,Instr.slice,Instr.sliceBounds,Instr.sliceBound,ex,cu,run_underlying hu,bY,(aO _ _ he).run_sizeOf,c7,lb,uI,aK,a7,ck,oE];rw[bT ⟨by omega,by omega⟩];simp only[c7,bY,gN];rw[bT ⟨by omega,by omega⟩];simp only[c7,bY,gN];rw[bT ⟨by omega,by omega⟩];simp
end
section
variable{X:c1}{G:GT}{pr:l8}{D:bS}{m m':bz}{F:Fr}{an:bm ap}{C:dO}{I:aJ}{M:List aF}{K:gr}{o:Oper}{v:ap}
def ann(aO:cX X.P X.E)(ah:∀ d,o.dst=some d->d<X.n){args:Array Operand}(aC:o.op=.call { callee:=.builtin .unsafeString,args:=args,argTypes:=e7 })(h:RI (ef X G pr) m e7.toList (od an args.toList)=some (v,m'))
  (H:jn D F an args.toList) (hm:df (ef X G pr) D m I M) (k:r7 X G pr D m I M v m' o.dst F C K):bF X o F C I M K:=by
 unfold RI at h;split at h
 ·rename_i uU it au aA;cases h;obtain⟨op,on,nb,aa,ab⟩:=Mz aA;obtain⟨nf,aK,a'⟩:=H.bH (x:=op) (by rw[nb];simp) aa;obtain⟨kz,a7,bg⟩:=H.bH (x:=on) (by rw[nb];simp) ab;have CQ:args=#[op,on]:=by apply gX;simpa using nb
  have CR:e7=#[uU,it]:=by apply gX;simpa using au
  have MB:nf=.pointer none:=by simpa only[aW]using a'
  subst MB;rw[bg.int]at a7;refine bF.WS (by rw[aC,CQ,CR]) ah aK a7 (k D _ M bS.pe ?_ hm);simp only[aW];rfl
 ·rename_i uU it id n au aA;split at h
  ·rename_i sa s8 sz e cs T fN ano ax;obtain⟨aG,he,dZ⟩:=cy h;obtain⟨ag,eX⟩:=fZ dZ;simp only[cw]at ag;obtain⟨op,on,nb,aa,ab⟩:=Mz aA;obtain⟨nf,aK,a'⟩:=H.bH (x:=op) (by rw[nb];simp) aa;obtain⟨kz,a7,bg⟩:=H.bH (x:=on) (by rw[nb];simp) ab;have CQ:args=#[op,on]:=by apply gX;simpa using nb
   have CR:e7=#[uU,it]:=by apply gX;simpa using au
   rw[bg.int]at a7;obtain⟨a,a6,rfl⟩:=a'.ptr;have qq:=hm.iV _ _ _ ax a6;obtain⟨arr,yP,bb,dk,ao,ae,iA⟩:=qq;have IP:=dJ ag.2.1;subst IP;unfold uf at eX;simp only[ax]at eX;cases Sq:Nat.ble (Nat.add 0 n) fN with
   |false=>rw[Sq]at eX;cases eX| true=>
   rw[Sq]at eX;simp only[cp]at eX;have oL:0+n<=fN:=bK Sq;obtain⟨l,fF,fB,dT⟩:=bm.E5 cs n 0 _ _ eX;obtain⟨cB,u7,pL⟩:=cy dT;obtain⟨Ps,MC⟩:=fZ pL;obtain⟨t1,aL,bq⟩:=bm.o7 (none:Option fx) m.t id;rw[aL]at MC;cases MC;have z5:(arr.toList.take n).length=n:=by rw[fR,x4];omega
   have Fi:bO D l (arr.toList.take n):=bO.IB (by rw[z5,fF]) λi v hi=>by
    have fq:i<n:=by rw[<-fF];exact(iz.1 hi).1
    obtain⟨x,b5,gf⟩:=ao i v (by omega) (by have:=fB i fq;rw[dp]at this;rw[this,hi]);rw[yP,dp]at b5;exact⟨x,by rw[k9,bT fq];simpa using b5,gf⟩
   have iK:=aaT u7 Fi;have kR:cB.length=n:=by have:=congrArg List.length iK;rw[z5]at this;simpa using this.symm
   obtain⟨a9,post,de⟩:=vt bb;have mF:M.Perm (⟨a.b,.cells arr T (0,0)⟩::(a9++post)):=by rw[de];exact na
   have lS:arr.toList.take cB.length=cB.map λb=>Value.int .u8 b.toNat:=by rw[kR];exact iK
   have aw:cB≠[]:=λcU=>by subst cU;have:0<n:=bK ag.2.2;simp at kR;omega
   have eB:bH F op=.val (.pointer (some ⟨a.b,0,none⟩)):=by rw[aK,yP]
   have rn:bH F on=.val (.int .i64 cB.length):=by rw[a7,kR];rfl
   refine bF.Pr aO (by rw[aC,CQ,CR]) ah ano rfl he (dJ ag.1) eB rn aw (by rw[kR];exact bK Ps) mF lS ?_;have j9:∀ i e8,t1.get i=some e8->i≠id/\m.t.get i=some e8:=λi e8 hi=>by
    rcases bq i e8 hi with⟨_,eX⟩ | eX;·cases eX
    ·exact eX
   refine k D _ _ bS.pe (by simp only[aW]) ⟨λi e8 b hi iN=>?_,λi gV e8 AJ b jb hi cG=>hm.inj i gV e8 AJ b jb (j9 i e8 hi).2 (j9 gV AJ cG).2,hm.jV,hm.qW⟩;refine(hm.iV i e8 b (j9 i e8 hi).2 iN).mono (bS.le_refl D) λq aM aD=>?_;rcases eA.1 (mF.mem_iff.1 aM)with rfl | aM;·exact((j9 i e8 hi).1 (hm.inj _ _ _ _ _ _ (j9 i e8 hi).2 ax iN a6 aD.symm)).elim
   ·exact aM
  ·cases h
 ·cases h
def anp(aO:cX X.P X.E)(ah:∀ d,o.dst=some d->d<X.n){v:ap}(aC:o.op=.slice t x (some lo) (some hi) (some mx))(h:Rz X.E t (dv an x) (dv an lo) (dv an hi) (dv an mx)=some v)
  (H:jn D F an o.op.operands.toList) (hm:df (ef X G pr) D m I M) (k:∀ x,gB D x v->K (put o.dst x F) C I M):bF X o F C I M K:=by
 unfold Rz at h;split at h
 ·rename_i sz hT z e id off n c eK l cR bj g' gq au ad eZ gI iA;obtain⟨aG,he,dZ⟩:=cy h;obtain⟨ag,eX⟩:=fZ dZ;simp only[cw]at ag;obtain⟨b1,bW,dA,gT⟩:=ag;cases eX;have b1:=bK b1;have bW:=bK bW;have dA:=bK dA;have gT:l+1<=gq:=bK gT;obtain⟨Cs,di,AK⟩:=H.bH (x:=x) (by rw[aC];simp[Op.operands]) ad;obtain⟨nf,aK,a'⟩:=H.bH (x:=lo) (by rw[aC];simp[Op.operands]) eZ;obtain⟨kz,a7,bg⟩:=H.bH (x:=hi) (by rw[aC];simp[Op.operands]) gI;obtain⟨Fg,ck,b5⟩:=H.bH (x:=mx) (by rw[aC];simp[Op.operands]) iA;rw[a'.int]at aK;rw[bg.int]at a7;rw[b5.int]at ck;simp only[aW]at AK;obtain⟨a,a6,rfl⟩:=AK;refine bF.slice3 aO aC ah au rfl he l bj gq di aK a7 ck b1 bW dA (k _ (.val ?_));simp only[aW];refine⟨a,a6,?_⟩;rw[bP (by omega),lb,eO _ rfl];simp only[Ak,EO,EP,tl]
 ·cases h
def abb{sz hT:Nat}{z:List Value}{n c h m:Nat}(aC:o.op=.slice t x none (some hi) (some mx))(au:X.E t=some ⟨sz,hT,z,.slice e⟩)(he:X.E e=some aG)
  (ad:bH F x=.val (.slice a n c)) (c4:bH F hi=.val (.int cR (h:Nat))) (hm:bH F mx=.val (.int g' (m:Nat))) (aa:h<=m) (ab:m<=c) (k:K (put o.dst (.val (.slice (if m=0 then a else a.map (·.add (0*aG.size))) (h-0) (m-0))) F) C I M):gZ X o F C I M K:=by
 obtain⟨dst,CU,ty,pos,after,guard⟩:=o;simp only at aC;subst aC;have aK:dB (dn F) x=.val (.slice a n c):=ad;have a7:dB (dn F) hi=.val (.int cR (h:Nat)):=c4;have ck:dB (dn F) mx=.val (.int g' (m:Nat)):=hm;simp only[gZ,cK,au,he,aK,a7,ck,uI,lb];exact⟨h,m,rfl,rfl,aa,ab,k⟩
def anq(aO:cX X.P X.E)(ah:∀ d,o.dst=some d->d<X.n){v:ap}(aC:o.op=.slice t x none (some hi) (some mx))(h:Ry X.E t (dv an x) (dv an hi) (dv an mx)=some v)
  (H:jn D F an o.op.operands.toList) (hm:df (ef X G pr) D m I M) (k:∀ x,gB D x v->K (put o.dst x F) C I M):gZ X o F C I M K:=by
 unfold Ry at h;split at h
 ·rename_i sz hT z e id off n c cR bj g' gq au ad gI iA;obtain⟨aG,he,dZ⟩:=cy h;obtain⟨ag,eX⟩:=fZ dZ;simp only[cw]at ag;obtain⟨bW,dA,gT⟩:=ag;cases eX;have bW:=bK bW;have dA:=bK dA;have gT:0+1<=gq:=bK gT;obtain⟨Cs,di,AK⟩:=H.bH (x:=x) (by rw[aC];simp[Op.operands]) ad;obtain⟨kz,a7,bg⟩:=H.bH (x:=hi) (by rw[aC];simp[Op.operands]) gI;obtain⟨Fg,ck,b5⟩:=H.bH (x:=mx) (by rw[aC];simp[Op.operands]) iA;rw[bg.int]at a7;rw[b5.int]at ck;simp only[aW]at AK;obtain⟨a,a6,rfl⟩:=AK;refine abb aC au he di a7 ck bW dA (k _ (.val ?_));simp only[aW];refine⟨a,a6,?_⟩;rw[bP (by omega),lb,eO _ rfl];simp
 ·rename_i sz hT z e id off a7 n cR bj g' gq au ad gI iA;obtain⟨aG,he,dZ⟩:=cy h;obtain⟨ag,eX⟩:=fZ dZ;simp only[cw]at ag;obtain⟨bW,dA,gT⟩:=ag;cases eX;have bW:=bK bW;have dA:=bK dA;have gT:0+1<=gq:=bK gT;obtain⟨Cs,di,AK⟩:=H.bH (x:=x) (by rw[aC];simp[Op.operands]) ad;obtain⟨kz,a7,bg⟩:=H.bH (x:=hi) (by rw[aC];simp[Op.operands]) gI;obtain⟨Fg,ck,b5⟩:=H.bH (x:=mx) (by rw[aC];simp[Op.operands]) iA;rw[bg.int]at a7;rw[b5.int]at ck;simp only[aW]at AK;obtain⟨a,a6,bk,rfl⟩:=AK;refine abb aC au he di a7 ck bW (by omega) (k _ (.val ?_));simp only[aW];refine⟨a,a6,?_⟩;rw[bP (by omega),lb,eO _ rfl];simp
 ·cases h
def anr(ah:∀ d,o.dst=some d->d<X.n){v:ap}(aC:o.op=.unOp .xor t x)(h:RA (dv an x)=some v)(H:jn D F an o.op.operands.toList)(k:∀ x,gB D x v->K (put o.dst x F) C I M):gZ X o F C I M K:=by
 unfold RA at h;split at h
 ·rename_i n ad;cases h;obtain⟨u,e,hu⟩:=H.bH (x:=x) (by rw[aC];simp[Op.operands]) ad;rw[hu.int]at e;have q:bF X o F C I M K:=bF.Hn aC ah e (k _ (.val (by simp only[aW])));obtain⟨dst,CU,ty,pos,after,guard⟩:=o;simp only at aC;subst aC;exact q
 ·cases h
def ans(aC:o.op=.slice t x (some lo) (some hi) (some mx))(k:bF X o F C I M K):gZ X o F C I M K:=by
 obtain⟨dst,CU,ty,pos,after,guard⟩:=o;simp only at aC;subst aC;simp only[gZ,cK];split
 ·rename_i e;cases e
 ·rename_i e;cases e
 ·split
  ·rename_i e _;cases e
  ·exact k
 ·exact k
def abc:Op->Bool
 | .makeMap .. | .lookup .. | .mapUpdate .. | .insert ..=>true| .call { callee:=.builtin .append,.. }=>true| .call { callee:=.builtin .copy,.. }=>true| .call { callee:=.builtin .unsafeString,.. }=>true| _=>false
def AL(aC:o.op=op)(h:abc op=true)(k:bF X o F C I M K):gZ X o F C I M K:=by
 obtain⟨dst,CU,ty,pos,after,guard⟩:=o;simp only at aC;subst aC;unfold abc at h;split at h<;>first | exact k | cases h
def ant(aO:cX X.P X.E)(ah:∀ d,o.dst=some d->d<X.n)(h:RJ (ef X G pr) m o an=some (v,m'))(H:jn D F an o.op.operands.toList)(hm:df (ef X G pr) D m I M)(k:r7 X G pr D m I M v m' o.dst F C K):gZ X o F C I M K:=by
 unfold RJ at h;split at h
 ·rename_i t x y aC;exact am0 aC h H hm k
 ·rename_i t aC;exact AL aC rfl (aaZ aO ah aC h (by simp) hm k)
 ·rename_i t x aC;split at h
  ·rename_i gq n ad;refine AL aC rfl (aaZ aO ah aC h (λy aE=>?_) hm k);cases aE;obtain⟨u,aK,a'⟩:=H.bH (x:=x) (by rw[aC];simp[Op.operands]) ad;rw[a'.int]at aK;exact⟨_,_,aK⟩
  ·cases h
 ·rename_i t x y ok aC;exact AL aC rfl (am2 aO ah aC h H hm k)
 ·rename_i t x y z aC;exact AL aC rfl (aa1 aO (.inl aC) h H hm k)
 ·rename_i t x y z aC;exact AL aC rfl (aa1 aO (.inr aC) h H hm k)
 ·rename_i s d x aC;have MD:=am4 aO ah aC h H hm k;obtain⟨dst,CU,ty,pos,after,guard⟩:=o;simp only at aC;subst aC;have sT:∃ a b z,X.E d=some ⟨a,b,z,.string⟩:=by
   unfold Mc at h;split at h;·exact⟨_,_,_,by assumption⟩
   ·exact⟨_,_,_,by assumption⟩
   ·exact⟨_,_,_,by assumption⟩
   ·cases h
  obtain⟨a,b,z,sT⟩:=sT;simp only[gZ,cK,sT];split;·rename_i e _;cases e
  ·exact MD
 ·rename_i b args e7 aC;have Sr:jn D F an args.toList:=by rw[aC]at H;simpa[Op.operands,Call.operands]using H
  unfold Z9 at h;split at h;·exact AL aC rfl (anm aO ah aC h Sr hm k)
  ·exact AL aC rfl (am5 aO ah aC h Sr hm k)
  ·exact AL aC rfl (ann aO ah aC h Sr hm k)
  ·cases h
 ·cases h
end
def IR(Y:gU)(call:ap->List ap->bz->Option (ap×bz)):Prop:=∀ f l m v m',call f l m=some (v,m')->∀ (D:bS) (I:aJ) (M:List aF) (u:Value) (us:List Value),aW D f u->bO D l us->df Y D m I M -> (∃ g cO cs,u=.func (.func g) cO cs/\Spec Y.P g (cO.toList++us++cs.toList) I M λr I' M'=>∃ bG,D.ext bG m.n/\aW bG v r/\df Y bG m' I' M') \/ ∃ q,u=.func (.yield q) #[] #[]/\DZ Y.P q us I M λr I' M'=>∃ bG,D.ext bG m.n/\aW bG v r/\df Y bG m' I' M'
def vD(dst:Option Nat)(v:ap)(D:bS)(F c9:Fr):Prop:=(∀ d,dst=some d->gB D (c9 d) v)/\∀ (D:bS) t qZ,dst≠some t->gB D (F t) qZ->gB D (c9 t) qZ
def vD.put{v:ap}{x:dH}(F:Fr)(h:gB D x v):vD dst v D F (put dst x F):=by
 constructor
 ·rintro d rfl;simpa[Go.V.put,gY]using h
 ·intro D t qZ bD h;cases dst with
  |none=>exact h| some d=>have:t≠d:=λe=>bD (by rw[e]);simp only[Go.V.put,gY,hF this,cb];exact h
def AA.v(h:AA dst u F c9){v:ap}(aj:aW D v u):vD dst v D F c9:=⟨λd ah=>by rw[h.1 d ah];exact .val aj,h.2⟩
section
variable{X:c1}{G:GT}{pr:l8}{D:bS}{m m':bz}{F:Fr}{an:bm ap}{C:dO}{I:aJ}{M:List aF}{K:gr}{o:Oper}{v:ap}
def ME(X:c1)(G:GT)(pr:l8)(o:Oper)(an:bm ap)(m:bz)(v:ap)(m':bz):Prop:=m.n<=m'.n/\∀ (D:bS) (F:Fr) (C:dO) (I:aJ) (M:List aF) (K:gr),jn D F an o.op.operands.toList->df (ef X G pr) D m I M -> (∀ bG c9 C' I' M',D.ext bG m.n->vD o.dst v bG F c9->df (ef X G pr) bG m' I' M'->K c9 C' I' M')->gZ X o F C I M K
def anu(aC:o.op=op)(ae:lC X.E op=0)(h:cK X op (dn F) C I M (λx=>K (put o.dst x F) C I M) (bF X o F C I M K)):gZ X o F C I M K:=by
 obtain⟨dst,CU,ty,pos,after,guard⟩:=o;simp only at aC;subst aC;cases CU with
 |call c=>
  obtain⟨callee,args,e7⟩:=c;cases callee with
  |value f=>simp[lC]at ae| invoke r n=>exact h| builtin b=>exact h
 |alloc t=>simp[lC]at ae| box t x=>simp[lC]at ae| store t x y=>simp[lC]at ae| buildSlice t l ps=>simp[lC]at ae| makeSlice t l c=>simp[lC]at ae| _=>exact h
def abd(aO:cX X.P X.E)(ah:∀ d,o.dst=some d->d<X.n){v:ap}(ae:lC X.E o.op=0)(h:vv X.P X.E G m.t o.op an=some v)(H:jn D F an o.op.operands.toList)(hm:df (ef X G pr) D m I M)
  (k:∀ x,gB D x v->K (put o.dst x F) C I M):gZ X o F C I M K:=by
 unfold vv at h;split at h
 ·rename_i t x aC;exact anr ah aC h H k
 ·rename_i t x lo hi mx aC;exact ans aC (anp aO ah aC h H hm k)
 ·rename_i t x hi mx aC;exact anq aO ah aC h H hm k
 ·exact anu rfl ae (amO aO h H hm k)
def Ss{K:bm ap->Option R}{r:R}(h:p6 dst an v K=some r):∃ dd,K dd=some r/\(dst=none->dd=an)/\∀ d,dst=some d->∀ t w,dd.get t=some w->(t=d/\w=v)\/(t≠d/\an.get t=some w):=by
 unfold p6 at h;cases dst with
 |none=>exact⟨an,h,λ_=>rfl,λd ah=>by cases ah⟩
 |some d=>
  have bj:(RB v λv=>an.nT (some v) d K)=some r:=h;rw[alY]at bj;obtain⟨dd,aa,ab⟩:=bm.o7 (some v) an d;rw[aa]at bj;refine⟨dd,bj,(λe=>by cases e),λd' ah t w hw=>?_⟩;cases ah;rcases ab t w hw with⟨aK,a7⟩ | ⟨aK,a7⟩;·exact .inl ⟨aK,(pb a7).symm⟩
  ·exact .inr ⟨aK,a7⟩
def abe(aO:cX X.P X.E)(ko:∀ d,d<X.n->X.gJ.contains d=true)(ah:∀ d,o.dst=some d->d<X.n)(mZ:IR (ef X G pr) call){K:bm ap->bz->Option R}{r:R}
  (h:Aq (ef X G pr) call o an m K=some r):∃ v m' dd,ME X G pr o an m v m'/\(p6 o.dst an v λan=>K an m')=some r/\K dd m'=some r/\(o.dst=none->dd=an)/\∀ d,o.dst=some d->∀ t w,dd.get t=some w->(t=d/\w=v)\/(t≠d/\an.get t=some w):=by
 have fin:∀ {v:ap} {m':bz},ME X G pr o an m v m'->(p6 o.dst an v λan=>K an m')=some r->∃ v m' dd,ME X G pr o an m v m'/\(p6 o.dst an v λan=>K an m')=some r/\K dd m'=some r/\(o.dst=none->dd=an)/\∀ d,o.dst=some d->∀ t w,dd.get t=some w->(t=d/\w=v)\/(t≠d/\an.get t=some w):=fun {v m'} ao aH=>by obtain⟨dd,aa,ab,ai⟩:=Ss aH;exact⟨v,m',dd,ao,aH,aa,ab,ai⟩
 unfold Aq at h;split at h
 ·
  rename_i f args e7 aC;unfold Z' at h;obtain⟨anv,aB,h⟩:=cy h;obtain⟨l,aA,h⟩:=cy h;obtain⟨⟨v,m'⟩,ao,h⟩:=cy h;obtain⟨aD,h⟩:=fZ h;refine fin ⟨bK aD,λD F C I M K s9 hm ae=>?_⟩ h;rw[aC]at s9;obtain⟨u,aK,a'⟩:=s9.bH (x:=f) (by simp[Op.operands,Call.operands]) aB;obtain⟨us,a7,bg⟩:=s9.mO (l:=args.toList) (by intro y aE;simp[Op.operands,Call.operands];exact .inr (by simpa using aE)) aA;obtain⟨dst,CU,ty,pos,after,guard⟩:=o;simp only at aC;subst aC;rcases mZ _ _ _ _ _ ao D I M u us a' bg hm with⟨g,cO,cs,rfl,av⟩ | ⟨q,rfl,av⟩
  ·simp only[gZ,aK,a7];exact bc.whole _ av λr I' M' bB ad=>by obtain⟨bG,aa,ab,ai⟩:=ad;exact ae bG _ C I' M' aa (.put F (.val ab)) ai
  ·simp only[gZ,aK,a7];refine bF.yield rfl ah aK a7 ⟨M,[],_,by simp,av,λr I' M' bB ad=>?_⟩;obtain⟨bG,aa,ab,ai⟩:=ad;rw[dD];exact ae bG _ C I' M' aa (.put F (.val ab)) ai
 ·rename_i op eD;unfold aad at h;split at h
  ·rename_i lv;unfold aab at h;obtain⟨v,aj,h⟩:=cy h;refine fin ⟨b2 _,λD F C I M K s9 hm ae=>?_⟩ h;exact abd aO ah lv aj s9 hm λx ad=>ae D _ C I M bS.pe (.put F ad) hm
  ·unfold aaa at h;obtain⟨d,fk,h⟩:=cy h;obtain⟨⟨l,T,c,mk⟩,a6,h⟩:=cy h;obtain⟨m2,ab,aD,ai⟩:=Sa (Y:=ef X G pr) h;refine fin (v:=mk m.n) (m':=m2) ⟨by omega,λD F C I M K s9 hm ae=>?_⟩ (by rw[fk];exact ab);refine aaP aO ko ah a6 (by rw[fk];rfl) s9 λb vs u c9 C' bB aB iK cQ ao hu St=>?_;have aL:=ai (vs:=vs) [] (b:=b) (c:=c) hm aB iK (by simpa using cQ) ao;rw[dD]at aL;exact ae _ c9 C' I _ bS.Fe (St.v (hu _ _ (bS.p8 _ _ _))) aL
  ·unfold aac at h;obtain⟨⟨v,m'⟩,ad,h⟩:=cy h;obtain⟨aD,h⟩:=fZ h;refine fin ⟨bK aD,λD F C I M K s9 hm ae=>?_⟩ h;exact ant aO ah ad s9 hm λbG u M' aa ab ai=>ae bG _ C I M' aa (.put F (.val ab)) ai
end
def lH(X:c1)(G:GT)(pr:l8)(D0:bS)(n0:Nat)(an:bm ap)(m:bz)(a:Act)(w:World):Prop:=
 ∃ D F C I M,Rel X a w F C I M/\qX D F an/\df (ef X G pr) D m I M/\D0.ext D n0/\n0<=m.n
section
variable{X:c1}{G:GT}{pr:l8}{D0:bS}{n0:Nat}{m m':bz}{an dd:bm ap}{a:Act}{w:World}
def bS.abf{IL:bS}(h:D.ext bG n)(bj:bG.ext IL gA)(aD:n<=gA):D.ext IL n:=λi hi=>by rw[bj i (by omega),h i hi]
def anw{ops:Array Oper}{o:Oper}(h:vx ops.toList o an=some b)(bs:∀ t,e5 β (F t) (a.tmps.getD t undef))(xT:qX D F an):Region.wanted o (yielded ops a.tmps)=b:=by
 unfold vx at h;split at h
 ·rename_i ax;cases h;simp[Region.wanted,ax]
 ·rename_i j c ax;split at h
  ·cases h
  ·rename_i d ak;have jM:(ops[j]?).bind (·.dst)=some d:=by rw[Av]at ak;simpa using ak
   have aE:=GC jM a.tmps;split at h
   ·rename_i q aM;cases h;have av:=xT _ _ aM;have aj:a.tmps.getD d undef=.bool q:=by
     have aa:=bs d;rcases av with⟨u,e,hu⟩ | ⟨fP,cU,e⟩;·rw[e]at aa;rw[aa,hu.bool]
     ·cases cU;rw[e]at aa;exact aa
    simp[Region.wanted,ax,aE,DN aj]
   ·rename_i l aM;cases h;have av:=xT _ _ aM;obtain⟨u,e,hu⟩:=av.w9 (by simp);obtain⟨vs,_,rfl⟩:=hu.RZ;have aa:=bs d;rw[e]at aa;have uQ:yielded ops a.tmps j=none:=by
     rw[aE];cases jO:a.tmps[d]? with
     |none=>rfl| some v=>simp only[e5,pB,jO,kK]at aa;subst aa;rfl
    simp[Region.wanted,ax,uQ]
   ·cases h
def abg{o:Oper}{K:bm ap->Option R}{r:R}(h:CJ o an K=some r):∃ dd,K dd=some r/\(o.dst=none->dd=an)/\∀ d,o.dst=some d->∀ t w,dd.get t=some w->(t=d/\w=.t [])\/(t≠d/\an.get t=some w):=by
 unfold CJ at h;cases ah:o.dst with
 |none=>rw[ah]at h;exact⟨an,h,λ_=>rfl,λd e=>by cases e⟩
 |some d=>
  rw[ah]at h;obtain⟨dd,aa,ab⟩:=bm.o7 (some (ap.t [])) an d;simp only[aa]at h;refine⟨dd,h,(λe=>by cases e),λd' fE t w hw=>?_⟩;cases fE;rcases ab t w hw with⟨aK,a7⟩ | ⟨aK,a7⟩;·exact .inl ⟨aK,(pb a7).symm⟩
  ·exact .inr ⟨aK,a7⟩
def qX.step{v:ap}(h:qX D F an)(bk:D.le bG)(aH:vD dst v bG F c9)(aa:dst=none->dd=an)(ab:∀ d,dst=some d->∀ t w,dd.get t=some w->(t=d/\w=v)\/(t≠d/\an.get t=some w)):qX bG c9 dd:=λt u au=>by
 cases ah:dst with
 |none=>rw[aa ah]at au;exact aH.2 bG t u (by rw[ah];simp) ((h t u au).mono bk)
 |some d=>
  rcases ab d ah t u au with⟨rfl,rfl⟩ | ⟨bD,ax⟩;·exact aH.1 _ ah
  ·exact aH.2 bG t u (by rw[ah];intro e;cases e;exact bD rfl) ((h t u ax).mono bk)
def Su(aO:cX X.P X.E)(ko:∀ d,d<X.n->X.gJ.contains d=true){call:ap->List ap->bz->Option (ap×bz)}(mZ:IR (ef X G pr) call)(ops:Array Oper)(Q:Exit->Act->World->Prop)(nA:∀ a w,lH X G pr D0 n0 dd m' a w->Q .normal a w):∀ (l:List Oper) (k:Nat),(∀ j,l[j]?=ops[k+j]?)->(∀ o∈l,∀ d,o.dst=some d->d<X.n)->∀ {an m a w},E0 (ef X G pr) call ops.toList l an m=some (dd,m') -> lH X G pr D0 n0 an m a w->wpOpsIn (g8 X) 0 X.P ops Q (List.range' k l.length) a w
 |[],k,_,_,an,m,a,w,h,av=>by have bj:some (an,m)=some (dd,m'):=h;cases bj;exact nA _ _ av
 |o::bo,k,aA,ah,an,m,a,w,h,av=>by
  have aw:ops[k]?=some o:=by simpa using(aA 0).symm
  have rp:∀ j,bo[j]?=ops[k+1+j]?:=λj=>by have:=aA (j+1);simpa[tl,Gv 1 j]using this
  have fE:∀ o∈bo,∀ d,o.dst=some d->d<X.n:=λo aC=>ah o (by simp[aC]);have zt:=ah o (by simp);have bj:bx (vx ops.toList o an) none (λw=>b4 w (Aq (ef X G pr) call o an m λan m=>E0 (ef X G pr) call ops.toList bo an m) (CJ o an λan=>E0 (ef X G pr) call ops.toList bo an m))=some (dd,m'):=h;obtain⟨b,ag,bj⟩:=cy bj;obtain⟨D,F,C,I,M,⟨β,aX⟩,bs,hm,ad,aD⟩:=av;have hw:=anw ag aX.an bs;simp only[eo,OH,wpOpsIn,aw];rw[hw];cases b with
  |true=>have ab:Aq (ef X G pr) call o an m (λan m=>E0 (ef X G pr) call ops.toList bo an m)=some (dd,m'):=bj;obtain⟨v,cM,fI,⟨IS,IT⟩,-,ai,a',bg⟩:=abe aO ko zt mZ ab;simp only[sv];refine tk (λbN w'=>?_) (DM aO zt ⟨β,aX⟩ (IT D F C I M (λc9 C' I' M'=>∃ bG,D.ext bG m.n/\qX bG c9 fI/\df (ef X G pr) bG cM I' M') (bs.op _) hm λbG c9 C' I' M' aK a7 ck=>⟨bG,aK,bs.step (hm.le aK) a7 a' bg,ck⟩));rintro⟨c9,C',I',M',fA,bG,aK,a7,ck⟩;exact Su aO ko mZ ops Q nA bo (k+1) rp fE ai ⟨bG,c9,C',I',M',fA,a7,ck,bS.abf ad aK aD,ja aD IS⟩
  |false=>have ab:CJ o an (λan=>E0 (ef X G pr) call ops.toList bo an m)=some (dd,m'):=bj;obtain⟨fI,ai,a',bg⟩:=abg ab;simp only[k',mh];refine⟨λ_ _=>trivial,Su aO ko mZ ops Q nA bo (k+1) rp fE ai ⟨D,put o.dst (.val undef) F,C,I,M,⟨β,aX.put (x:=.val undef) zt rfl⟩,bs.step (bS.le_refl D) (.put F (.val .undef)) a' bg,hm,ad,aD⟩⟩
end
def anx(a4:∀ j e,mV ops j e->e<j)(J:(Nat->Prop)->Act->World->Prop)(step:∀ (L:Nat->Prop) a w q o,J L a w->BM ops L->(∀ i,L i->i<ops.length)->ops[q]?=some o->¬ L q->(∀ e,mV ops q e->L e) -> (Region.wanted o (yielded ops.toArray a.tmps)=true->o.wpIn (g8 X) 0 X.P a w (J λj=>L j\/j=q) Q)/\(Region.wanted o (yielded ops.toArray a.tmps)=false->J (λj=>L j\/j=q) (a.put o.dst undef) w))
  (fin:∀ a w,J (λi=>i<ops.length) a w->Q .normal a w):∀ (eg:Nat) (dE:Array Bool) (a:Act) (w:World),dE.size=ops.length->todo ops dE<=eg->BM ops (λi=>dE.getD i false=true) ->
   J (λi=>dE.getD i false=true) a w->wpAnyIn (g8 X) 0 X.P .any ops.toArray Q eg dE a w:=by
 have fN:∀ (dE:Array Bool) (i:Nat),dE.getD i false=true->i<dE.size:=λdE i h=>by refine GR λaD=>?_;simp[Array.getD,aD]at h
 have full:∀ (dE:Array Bool) a w,dE.size=ops.length->Region.ready .any ops.toArray dE=[]->J (λi=>dE.getD i false=true) a w->Q .normal a w:=λdE a w dk lq a8=>by
  have all:∀ i,i<ops.length->dE.getD i false=true:=λi=>by
   induction i using Nat.strongRecOn with
   |ind i aN=>
    intro hi;refine GR λaD=>?_;have aC:ops[i]?=some ops[i]:=dt hi;have:i∈Region.ready .any ops.toArray dE:=(mem_ready dk).2 ⟨_,aC,aD,λe he=>by
     have aa:=a4 i e he;exact aN e aa (by omega)⟩
    rw[lq]at this;cases this
  have e:(λi=>dE.getD i false=true)=λi=>i<ops.length:=by funext i;simp only[eq_iff_iff];exact⟨λh=>by have:=fN dE i h;omega,all i⟩
  rw[e]at a8;exact fin a w a8
 intro eg
 induction eg with
 |zero=>
  intro dE a w dk aB dm a8;have lq:Region.ready .any ops.toArray dE=[]:=by
   cases af:Region.ready .any ops.toArray dE with
   |nil=>rfl| cons i l=>obtain⟨o,aC,aD,_⟩:=(mem_ready dk).1 (by rw[af];simp:i∈Region.ready .any ops.toArray dE);have:=K2 (iz.1 aC).1 dk aD;omega
  exact⟨lq,full dE a w dk lq a8⟩
 |succ eg aN=>
  intro dE a w dk aB dm a8;refine⟨λlq=>full dE a w dk lq a8,λq aM=>?_⟩;obtain⟨o,aC,aD,ah⟩:=(mem_ready dk).1 aM;have cJ:=(iz.1 aC).1;have g1:=Wy (dE:=dE) (i:=q) (by omega);have next:∀ bN w',J (λj=>dE.getD j false=true\/j=q) bN w'->wpAnyIn (g8 X) 0 X.P .any ops.toArray Q eg (dE.setIfInBounds q true) bN w':=λbN w' h=>by
   refine aN _ bN w' (by simpa using dk) ?_ ?_ (by rw[g1];exact h);·have:=K2 cJ dk aD;omega
   ·rw[g1];rintro j e (ak | rfl) he
    ·exact .inl (dm j e ak he)
    ·exact .inl (ah e he)
  obtain⟨s1,s2⟩:=step _ a w q o a8 dm (λi hi=>by have:=fN dE i hi;omega) aC aD ah;have G4:ops.toArray[q]?=some o:=by simpa using aC
  unfold wpOpIn;simp only[G4];cases hw:Region.wanted o (yielded ops.toArray a.tmps)with
  |true=>
   simp only[sv];exact tk next (s1 hw)
  |false=>simp only[k',mh];exact⟨λ_ _=>trivial,next _ _ (s2 hw)⟩
def abh{S:List bz}{lo hi:Nat}{p:bz->Bool}{m:bz}(h:E3 S lo hi p=true)(aa:lo<=j)(ab:j<=hi)(ak:S[j]?=some m):p m=true:=by unfold E3 at h;refine fV.1 h m ?_;refine rv (i:=j-lo) ?_;rw[k9,bT (by omega),nw,show lo+(j-lo)=j by omega];exact ak
def filter_le{p:α->Bool}:∀ {l:List α},(∀ q e,l[q]?=some e->p e=true->q<j)->(l.filter p).length<=j:=by
 intro l h;have aK:l.filter p=(l.take j).filter p:=by
  conv=>lhs;rw[<-pM j l]
  rw[EM];have:(l.drop j).filter p=[]:=by rw[List.filter_eq_nil_iff];intro a a6 aH;obtain⟨q,aM⟩:=LY a6;rw[nw]at aM;have:=h _ _ aM aH;omega
  rw[this,dD]
 rw[aK];refine ja (DR _ _) ?_;simp;omega
def le_filter{p:α->Bool}{l:List α}(ak:j<=l.length)(h:∀ q e,q<j->l[q]?=some e->p e=true):j<=(l.filter p).length:=by
 have aK:(l.take j).filter p=l.take j:=by
  rw[List.filter_eq_self];intro a a6;obtain⟨q,aM⟩:=LY a6;rw[k9]at aM;split at aM;·exact h q a (by assumption) aM
  ·cases aM
 have a7:l.filter p=(l.take j).filter p++(l.drop j).filter p:=by
  conv=>lhs;rw[<-pM j l]
  rw[EM]
 rw[a7,aK,cm,fR];omega
mutual
def abi{D:bS}:∀ {x y:ap} {u:Value},E2 x y=true->aW D x u->aW D y u
 |x,y,u,h,ad=>by
  cases x<;>cases y<;>simp only[E2,k',cw]at h
  case b.b=>
   have:=eq_of_beq h;subst this;exact ad
  case i.i=>
   obtain⟨aa,ab⟩:=h;have:=IntKind.DK aa;subst this;rw[CL,hS]at ab;subst ab;exact ad
  case s.s=>
   rw[E6,hS]at h;subst h;exact ad
  case pn.pn=>exact ad
  case p.p=>
   obtain⟨aa,ab⟩:=h;have:=dJ aa;subst this;have:=dJ ab;subst this;exact ad
  case g.g=>
   obtain⟨aa,ab⟩:=h;have:=dJ aa;subst this;have:=dJ ab;subst this;exact ad
  case sn.sn=>exact ad
  case sl.sl=>
   obtain⟨aa,ab,ai,aL⟩:=h;have:=dJ aa;subst this;have:=dJ ab;subst this;have:=dJ ai;subst this;have:=dJ aL;subst this;exact ad
  case sx.sx=>
   obtain⟨aa,ab,ai,aL⟩:=h;have:=dJ aa;subst this;have:=dJ ab;subst this;have:=dJ ai;subst this;have:=dJ aL;subst this;exact ad
  case gs.gs=>
   obtain⟨aa,ab,ai,aL⟩:=h;have:=dJ aa;subst this;have:=dJ ab;subst this;have:=dJ ai;subst this;have:=dJ aL;subst this;exact ad
  case mn.mn=>exact ad
  case m.m=>have:=dJ h;subst this;exact ad
  case f.f=>
   obtain⟨aa,ab,ai⟩:=h;have:=dJ aa;subst this;simp only[aW]at ad |-;obtain⟨vs,ws,a',bg,b5⟩:=ad;exact⟨vs,ws,Fj ab a',Fj ai bg,b5⟩
  case y.y=>have:=dJ h;subst this;exact ad
  case fn.fn=>exact ad
  case ni.ni=>exact ad
  case t.t=>
   simp only[aW]at ad |-;obtain⟨vs,a',bg⟩:=ad;exact⟨vs,Fj h a',bg⟩
  case a.a=>
   simp only[aW]at ad |-;obtain⟨vs,a',bg⟩:=ad;exact⟨vs,Fj h a',bg⟩
def Fj{D:bS}:∀ {x y:List ap} {us:List Value},w8 x y=true->bO D x us->bO D y us
 |[],[],us,h,ad=>ad| [],_::_,us,h,ad=>by simp[w8]at h
 |_::_,[],us,h,ad=>by simp[w8]at h
 |x::l,y::m,us,h,ad=>by simp only[w8,cw]at h;obtain⟨u,us,a',bg,rfl⟩:=ad.ky;exact .cons (abi h.1 a') (Fj h.2 bg)
end
def IU(dst:Option Nat)(an:bm ap)(v:ap)(dd:bm ap):Prop:=(dst=none->dd=an)/\∀ d,dst=some d->∀ t w,dd.get t=some w->(t=d/\w=v)\/(t≠d/\an.get t=some w)
def MF(m m':bz)(l:List ap)(T:Nat):Prop:=m'.n=m.n+1/\(∀ id e,m'.t.get id=some e->id=m.n\/m.t.get id=some e)
def yR(m m':bz):Prop:=m.n<=m'.n/\∀ id e,id<m.n->m'.t.get id=some e->m.t.get id=some e
def yR.refl(m:bz):yR m m:=⟨b2 _,λ_ _ _ h=>h⟩
def yR.trans{a b c:bz}(h:yR a b)(k:yR b c):yR a c:=⟨ja h.1 k.1,λid e hi he=>h.2 id e hi (k.2 id e (Kt hi h.1) he)⟩
def MF.grow{m m':bz}{l:List ap}{T:Nat}(h:MF m m' l T):yR m m':=⟨by rw[h.1];omega,λid e hi he=>by
 rcases h.2 id e he with aa | aa
 ·omega
 ·exact aa⟩
def anz{m:bz}{l:List ap}{T:Nat}{K:Nat->bz->Option R}{r:R}(h:vw m l T K=some r):∃ m',K m.n m'=some r/\MF m m' l T:=by unfold vw at h;obtain⟨cs,aa,ab⟩:=bm.yM l (.nil:bm ap) 0;rw[aa]at h;obtain⟨bf,ai,aL⟩:=IM h;exact⟨_,aL,rfl,λid e hi=>(ai id e hi).imp (λq=>q.1) λq=>q.2⟩
def df.grow{m m':bz}(h:df Y D m I M)(ax:yR m m'):df Y D m' I M where
 iV id e a aa ab:=h.iV id e a (ax.2 id e (h.jV _ _ ab) aa) ab
 inj id iW e cU a bN aa tK ab m4 ag:=h.inj id iW e cU a bN (ax.2 id e (h.jV _ _ ab) aa) (ax.2 iW cU (h.jV _ _ m4) tK) ab m4 ag
 jV id a ab:=Kt (h.jV _ _ ab) ax.1
 qW:=h.qW
inductive l9(X:c1)(G:GT)(pr:l8)(ops:List Oper):List (Nat×Nat)->bm ap->bz->List (Nat×ap)->bm ap->bz->List bz->List qV->Prop
 |nil{an m}:l9 X G pr ops [] an m [] an m [m] []| q {i o bo an m v dd vs g7 gM S A} (aC:ops[i]?=some o) (ae:lC X.E o.op=0) (hw:vx ops o an=some true) (aj:vv X.P X.E G m.t o.op an=some v) (aH:IU o.dst an v dd) (t:l9 X G pr ops bo dd m vs g7 gM S A) : l9 X G pr ops ((i,0)::bo) an m ((i,v)::vs) g7 gM S (bif qz o.op then .load i o an v::A else A)| a {i o d bo an m m' l T c mk dd vs g7 gM S A} (aC:ops[i]?=some o) (ae:lC X.E o.op=1) (hw:vx ops o an=some true) (ah:o.dst=some d) (aj:CI X.E o an=some (l,T,c,mk)) (aD:MF m m' l T) (aH:IU o.dst an (mk m.n) dd) (t:l9 X G pr ops bo dd m' vs g7 gM S A) : l9 X G pr ops ((i,1)::bo) an m ((i,mk m.n)::vs) g7 gM S (.made i m.n l T::A)| e {i o bo an m m' v dd vs g7 gM S A} (aC:ops[i]?=some o) (ae:lC X.E o.op=2) (hw:vx ops o an=some true) (ao:ME X G pr o an m v m') (aH:IU o.dst an v dd) (t:l9 X G pr ops bo dd m' vs g7 gM S A) : l9 X G pr ops ((i,2)::bo) an m ((i,v)::vs) g7 gM (m::S) A| skip {i k o bo an m dd vs g7 gM S A} (aC:ops[i]?=some o) (ae:lC X.E o.op=k) (hw:vx ops o an=some false) (aH:IU o.dst an (.t []) dd) (t:l9 X G pr ops bo dd m vs g7 gM S A) : l9 X G pr ops ((i,k)::bo) an m ((i,.t [])::vs) g7 gM (bif Nat.beq k 2 then m::S else S) A
section
variable{X:c1}{G:GT}{pr:l8}{ops:List Oper}
def IV(aO:cX X.P X.E)(ko:∀ d,d<X.n->X.gJ.contains d=true)(h8:∀ o∈ops,∀ d,o.dst=some d->d<X.n){call:ap->List ap->bz->Option (ap×bz)}(mZ:IR (ef X G pr) call):∀ (row:List (Nat×Nat)) {an:bm ap} {m:bz} {jW:List bz} {og:List qV} {g7:bm ap} {gM:bz} {jo:List bz} {nV:List qV},o6 (ef X G pr) call ops row an m jW og=some (g7,gM,jo,nV)->∃ vs S A,l9 X G pr ops row an m vs g7 gM S A/\jo=S.reverse++jW/\(∀ h∈A,h∈nV)/\∀ h∈og,h∈nV
 |[],an,m,jW,og,g7,gM,jo,nV,h=>by simp only[o6,kJ,Prod.mk.injEq]at h;obtain⟨rfl,rfl,rfl,rfl⟩:=h;exact⟨[],[m],[],.nil,by simp,by simp,λ_ h=>h⟩
 |(i,k)::bo,an,m,jW,og,g7,gM,jo,nV,h=>by
  simp only[o6]at h;obtain⟨o,aC,h⟩:=cy h;obtain⟨w,hw,h⟩:=cy h;obtain⟨ae,h⟩:=fZ h;rw[Av]at aC;have hR:lC X.E o.op=k:=dJ ae;have zt:=h8 o (rv aC);cases w with
  |false=>
   have ab:CJ o an (λan=>o6 (ef X G pr) call ops bo an m (b4 (Nat.beq k 2) (m::jW) jW) og)=some (g7,gM,jo,nV):=h;obtain⟨fI,ai,a',bg⟩:=abg ab;obtain⟨vs,S,A,au,cv,dI,vE⟩:=IV aO ko h8 mZ bo ai;refine⟨_,_,_,.skip aC hR hw ⟨a',bg⟩ au,?_,dI,vE⟩;rw[cv];cases Nat.beq k 2<;>simp[b4]
  |true=>
   have aa:b4 (Nat.beq k 0) (bx (vv X.P X.E G m.t o.op an) none λv=>p6 o.dst an v λdd=>o6 (ef X G pr) call ops bo dd m jW (b4 (qz o.op) (.load i o an v::og) og)) (b4 (Nat.beq k 1) (bx o.dst none λd=>bx (CI X.E o an) none λr=>vw m r.1 r.2.1 λid m=>p6 (some d) an (r.2.2.2 id) λan=>o6 (ef X G pr) call ops bo an m jW (.made i id r.1 r.2.1::og)) (Aq (ef X G pr) call o an m λan m'=>o6 (ef X G pr) call ops bo an m' (m::jW) og))=some (g7,gM,jo,nV):=h;by_cases HS:k=0
   ·subst HS;have ab:(bx (vv X.P X.E G m.t o.op an) none λv=>p6 o.dst an v λdd=>o6 (ef X G pr) call ops bo dd m jW (b4 (qz o.op) (.load i o an v::og) og))=some (g7,gM,jo,nV):=aa;obtain⟨v,aj,ab⟩:=cy ab;obtain⟨fI,ai,a',bg⟩:=Ss ab;obtain⟨vs,S,A,au,cv,dI,vE⟩:=IV aO ko h8 mZ bo ai;refine⟨_,_,_,.q aC hR hw aj ⟨a',bg⟩ au,cv,λy aE=>?_,λy aE=>vE y ?_⟩
    ·cases aA:qz o.op with
     |false=>rw[aA]at aE;exact dI y aE
     |true=>
      rw[aA]at aE;rcases eA.1 aE with rfl | aE;·refine vE _ ?_;rw[aA];simp[b4]
      ·exact dI y aE
    ·cases qz o.op with
     |false=>exact aE| true=>exact nS _ aE
   rw[hF HS]at aa;by_cases eK:k=1
   ·subst eK;have ab:(bx o.dst none λd=>bx (CI X.E o an) none λr=>vw m r.1 r.2.1 λid m=>p6 (some d) an (r.2.2.2 id) λan=>o6 (ef X G pr) call ops bo an m jW (.made i id r.1 r.2.1::og))=some (g7,gM,jo,nV):=aa;obtain⟨d,ah,ab⟩:=cy ab;obtain⟨⟨l,T,c,mk⟩,a6,ab⟩:=cy ab;obtain⟨m2,ai,aD⟩:=anz ab;have sV:p6 o.dst an (mk m.n) (λan=>o6 (ef X G pr) call ops bo an m2 jW (.made i m.n l T::og))=some (g7,gM,jo,nV):=by rw[ah];exact ai
    obtain⟨fI,aL,a',bg⟩:=Ss sV;obtain⟨vs,S,A,au,cv,dI,vE⟩:=IV aO ko h8 mZ bo aL;refine⟨_,_,_,.a aC hR hw ah a6 aD ⟨a',bg⟩ au,cv,λy aE=>?_,λy aE=>vE y (nS _ aE)⟩;rcases eA.1 aE with rfl | aE;·exact vE _ (by simp)
    ·exact dI y aE
   ·rw[hF eK]at aa;have ab:Aq (ef X G pr) call o an m (λan m'=>o6 (ef X G pr) call ops bo an m' (m::jW) og)=some (g7,gM,jo,nV):=aa;obtain⟨v,cM,fI,IT,-,ai,a',bg⟩:=abe aO ko zt mZ ab;obtain⟨vs,S,A,au,cv,dI,vE⟩:=IV aO ko h8 mZ bo ai;have e1:k=2:=by
     have:lC X.E o.op<=2:=by
      unfold lC;split<;>first | omega | (split<;>first | omega | (split<;>omega))
     rw[hR]at this;omega
    subst e1;exact⟨_,_,_,.e aC hR hw IT ⟨a',bg⟩ au,by rw[cv];simp,dI,vE⟩
def l9.head{an g7:bm ap}{m gM:bz}{vs:List (Nat×ap)}{S:List bz}{A:List qV}(h:l9 X G pr ops row an m vs g7 gM S A):∃ m2 jo,S=m2::jo/\yR m m2:=by
 induction h with
 |nil=>exact⟨_,_,rfl,.refl _⟩| q _ _ _ _ _ _ aN=>exact aN| a _ _ _ _ _ aD _ _ aN=>obtain⟨m2,jo,aa,ab⟩:=aN;exact⟨m2,jo,aa,aD.grow.trans ab⟩
 |e _ _ _ _ _ _ _=>exact⟨_,_,rfl,.refl _⟩
 | @skip i k o bo an m dd vs g7 gM S A _ _ _ _ _ aN=>
  cases ae:Nat.beq k 2 with
  |true=>exact⟨_,_,rfl,.refl _⟩| false=>simpa using aN
def l9.MG{an g7:bm ap}{m gM:bz}{vs:List (Nat×ap)}{S:List bz}{A:List qV}(h:l9 X G pr ops row an m vs g7 gM S A):m.n<=gM.n/\∀ i c l T,.made i c l T∈A->m.n<=c/\i∈row.map (·.1):=by
 induction h with
 |nil=>exact⟨b2 _,λ_ _ _ _ h=>by cases h⟩
 | @q i o bo an m v dd vs g7 gM S A _ _ _ _ _ _ aN=>
  refine⟨aN.1,λgV c l T hm=>?_⟩;have sH:.made gV c l T∈A:=by
   cases aA:qz o.op with
   |false=>rw[aA]at hm;exact hm
   |true=>
    rw[aA]at hm;rcases eA.1 hm with e | hm;·cases e
    ·exact hm
  exact⟨(aN.2 gV c l T sH).1,nS _ (aN.2 gV c l T sH).2⟩
 |a _ _ _ _ _ aD _ _ aN=>
  refine⟨ja aD.grow.1 aN.1,λgV c l T hm=>?_⟩;rcases eA.1 hm with e | hm;·cases e;exact⟨b2 _,by simp⟩
  ·exact⟨ja aD.grow.1 (aN.2 gV c l T hm).1,nS _ (aN.2 gV c l T hm).2⟩
 |e _ _ _ ao _ _ aN=>exact⟨ja ao.1 aN.1,λgV c l T hm=>⟨ja ao.1 (aN.2 gV c l T hm).1,nS _ (aN.2 gV c l T hm).2⟩⟩| skip _ _ _ _ _ aN=>exact⟨aN.1,λgV c l T hm=>⟨(aN.2 gV c l T hm).1,nS _ (aN.2 gV c l T hm).2⟩⟩
def l9.split:∀ (a9:List (Nat×Nat)) {bo:List (Nat×Nat)} {an g7:bm ap} {m gM:bz} {vs:List (Nat×ap)} {S:List bz} {A:List qV},l9 X G pr ops (a9++bo) an m vs g7 gM S A -> ∃ xh yS fI cM vF yT xi,vs=xh++yS/\xh.map (·.1)=a9.map (·.1)/\S=vF++yT/\vF.length=(a9.filter λr=>Nat.beq r.2 2).length/\l9 X G pr ops bo fI cM yS g7 gM yT xi/\(∀ h∈xi,h∈A)/\m.n<=cM.n /\ (∀ t w,fI.get t=some w->(∃ i,(i,w)∈xh/\jh ops i=some t)\/((∀ i∈a9.map (·.1),jh ops i≠some t)/\an.get t=some w)) /\ (∀ i c l T,.made i c l T∈A->.made i c l T∈xi\/c<cM.n)
 |[],bo,an,g7,m,gM,vs,S,A,h=>⟨[],vs,an,m,[],S,A,rfl,rfl,rfl,rfl,h,λ_ h=>h,b2 _,λt w hw=>.inr ⟨by simp,hw⟩,λ_ _ _ _ h=>.inl h⟩
 |(i,k)::a9,bo,an,g7,m,gM,vs,S,A,h=>by
  have fin:∀ {o:Oper} {dd:bm ap} {m':bz} {v:ap} {tr:List (Nat×ap)} {jo S:List bz} {nV A:List qV},ops[i]?=some o->IU o.dst an v dd->m.n<=m'.n->l9 X G pr ops (a9++bo) dd m' tr g7 gM jo nV -> (S=if Nat.beq k 2 then m::jo else jo)->(∀ h∈nV,h∈A)->(∀ i c l T,.made i c l T∈A->.made i c l T∈nV\/c<m'.n) ->
    ∃ xh yS fI cM vF yT xi,(i,v)::tr=xh++yS/\xh.map (·.1)=((i,k)::a9).map (·.1)/\S=vF++yT/\vF.length=(((i,k)::a9).filter λr=>Nat.beq r.2 2).length/\l9 X G pr ops bo fI cM yS g7 gM yT xi/\(∀ h∈xi,h∈A)/\m.n<=cM.n /\ (∀ t w,fI.get t=some w->(∃ i,(i,w)∈xh/\jh ops i=some t)\/((∀ gV∈((i,k)::a9).map (·.1),jh ops gV≠some t)/\an.get t=some w)) /\
     (∀ i c l T,.made i c l T∈A->.made i c l T∈xi\/c<cM.n):=by
   intro o dd m' v tr jo S nV A aC aH IS au cv dI anA;obtain⟨xh,yS,fI,cM,vF,yT,xi,aK,a7,ck,dM,jR,kA,vG,xj,xk⟩:=l9.split a9 au;refine⟨(i,v)::xh,yS,fI,cM,(if Nat.beq k 2 then m::vF else vF),yT,xi,by rw[aK];rfl,by simp[a7],?_,?_,jR,λh c4=>dI h (kA h c4),ja IS vG,λt w hw=>?_,λi c l T hm=>?_⟩
   ·rw[cv,ck];split<;>simp
   ·simp only[x5];split<;>simp[dM]
   ·rcases xj t w hw with⟨gV,aa,ab⟩ | ⟨aa,ab⟩
    ·exact .inl ⟨gV,nS _ aa,ab⟩
    ·have qB:jh ops i=o.dst:=by simp[jh,aC]
     cases ah:o.dst with
     |none=>
      rw[aH.1 ah]at ab;refine .inr ⟨λgV cG=>?_,ab⟩;rcases eA.1 cG with e | cG;·rw[show gV=i from e,qB,ah];simp
      ·exact aa gV cG
     |some d=>
      rcases aH.2 d ah t w ab with⟨rfl,rfl⟩ | ⟨bD,ai⟩;·exact .inl ⟨i,by simp,by rw[qB,ah]⟩
      ·refine .inr ⟨λgV cG=>?_,ai⟩;rcases eA.1 cG with e | cG
       ·rw[show gV=i from e,qB,ah];exact λe=>bD (by cases e;rfl)
       ·exact aa gV cG
   ·rcases anA i c l T hm with aa | aa
    ·exact xk i c l T aa
    ·exact .inr (Kt aa vG)
  cases h with
  |q aC ae hw aj aH t=>
   rename_i o v dd tr nV;refine fin aC aH (b2 _) t (by simp) (λh c4=>?_) λi c l T hm=>?_
   ·cases qz o.op with
    |false=>exact c4| true=>exact nS _ c4
   ·cases aA:qz o.op with
    |false=>rw[aA]at hm;exact .inl hm
    |true=>
     rw[aA]at hm;rcases eA.1 hm with e | hm;·cases e
     ·exact .inl hm
  |a aC ae hw ah aj aD aH t=>
   refine fin aC aH aD.grow.1 t (by simp) (λh c4=>nS _ c4) λi c l T hm=>?_;rcases eA.1 hm with e | hm;·cases e;exact .inr (by rw[aD.1];omega)
   ·exact .inl hm
  |e aC ae hw ao aH t=>exact fin aC aH ao.1 t (by simp) (λ_ h=>h) λ_ _ _ _ h=>.inl h
  |skip aC ae hw aH t=>exact fin aC aH (b2 _) t (by cases Nat.beq k 2<;>rfl) (λ_ h=>h) λ_ _ _ _ h=>.inl h
end
section
variable{ops:List Oper}
def anB{i k:Nat}{o:Oper}(aC:ops[i]?=some o)(h:GW o k=true):∀ e,mV ops i e->k.testBit e=true:=by rintro e⟨o',kN,rF,rC,ag,rfl⟩;rw[aC]at rF;cases rF;have:=fV.1 h kN (by simpa using rC);rw[ag]at this;simpa using this
def MH:∀ {row:List (Nat×Nat)} {k:Nat},w7 ops row k=true->∀ (a9:List (Nat×Nat)) (i c:Nat) (post:List (Nat×Nat)),row=a9++(i,c)::post -> (∃ o,ops[i]?=some o)/\k.testBit i=false/\i ∉ a9.map (·.1)/\∀ e,mV ops i e->k.testBit e=true\/e∈a9.map (·.1)
 |[],k,h,a9,i,c,post,e=>by simp at e
 |(i0,yz)::row,k,h,a9,i,c,post,e=>by
  simp only[w7,cw,tx]at h;obtain⟨aa,ab⟩:=h;split at ab
  ·rename_i o aC;rw[cw]at ab;cases a9 with
   |nil=>simp only[hX,zV,Prod.mk.injEq]at e;obtain⟨⟨rfl,rfl⟩,rfl⟩:=e;exact⟨⟨o,aC⟩,aa,by simp,λe he=>.inl (anB aC ab.1 e he)⟩
   |cons p a9=>
    simp only[pN,zV]at e;obtain⟨aK,a7⟩:=e;obtain⟨a',bg,b5,gf⟩:=MH ab.2 a9 i c post a7;have ag:∀ x,(k ||| 2^i0).testBit x=(k.testBit x||decide (x=i0)):=λx=>by rw[KQ,KP];congr 1;exact decide_eq_decide.2 eq_comm
    rw[ag,tI]at bg;refine⟨a',bg.1,?_,λe he=>?_⟩;·rw[<-aK];simp only[ca,eA,not_or];exact⟨by simpa using bg.2,b5⟩
    ·rcases gf e he with h | h
     ·rw[ag,kq]at h;rcases h with h | h
      ·exact .inl h
      ·exact .inr (by rw[<-aK];simp at h;simp[h])
     ·exact .inr (by rw[ca];exact nS _ h)
  ·cases ab
def Sv:∀ {row:List (Nat×Nat)} {k:Nat},w7 ops row k=true->∀ i,i<ops.length->k.testBit i=true\/i∈row.map (·.1)
 |[],k,h,i,hi=>by
  simp only[w7]at h;have:=dJ h;subst this
  left
  rw[Nat.testBit_two_pow_sub_one];simpa using hi
 |(i0,yz)::row,k,h,i,hi=>by
  simp only[w7,cw,tx]at h;obtain⟨aa,ab⟩:=h;split at ab
  ·rw[cw]at ab;rcases Sv ab.2 i hi with h | h
   ·rw[KQ,KP,kq]at h;rcases h with h | h
    ·exact .inl h
    ·have:i0=i:=by simpa using h
     exact .inr (by simp[this])
   ·exact .inr (by rw[ca];exact nS _ h)
  ·cases ab
def anC(h:w7 ops row 0=true):(row.map (·.1)).Nodup:=by
 have key:∀ {row:List (Nat×Nat)} {k:Nat},w7 ops row k=true->(row.map (·.1)).Nodup:=by
  intro row
  induction row with
  |nil=>intro k _;exact DF
  |cons r row aN=>
   intro k h;obtain⟨i0,yz⟩:=r;have bj:=h;simp only[w7,cw,tx]at h;obtain⟨aa,ab⟩:=h;split at ab;·rw[cw]at ab;rw[ca,mg];refine⟨λhm=>?_,aN ab.2⟩;obtain⟨⟨x,c⟩,ad,IW⟩:=c0.1 hm;obtain⟨a9,post,e⟩:=vt ad;have Sw:x=i0:=IW;subst Sw;have:=(MH bj ((x,yz)::a9) x c post (by rw[e];rfl)).2.2.1;exact this (by simp)
   ·cases ab
 exact key h
def abj{α β:Type}:∀ {l:List (α×β)},(l.map (·.1)).Nodup->∀ {k:α} {a b:β},(k,a)∈l->(k,b)∈l->a=b
 |[],_,k,a,b,h,_=>by cases h
 |(HS,c)::l,aD,k,a,b,h,bj=>by
  rw[ca,mg]at aD;rcases eA.1 h with e | h
  ·cases e;rcases eA.1 bj with cU | bj
   ·cases cU;rfl
   ·exact(aD.1 (c0.2 ⟨_,bj,rfl⟩)).elim
  ·rcases eA.1 bj with cU | bj
   ·cases cU;exact(aD.1 (c0.2 ⟨_,h,rfl⟩)).elim
   ·exact abj aD.2 h bj
end
section
variable{X:c1}{G:GT}{pr:l8}{D0:bS}{n0:Nat}{a:Act}{w:World}
def MI{o:Oper}{an:bm ap}(h:vx ops o an=some b)(bs:∀ t,e5 β (F t) (a.tmps.getD t undef))(H:∀ t∈looks ops o,∀ v,an.get t=some v->gB D (F t) v) :
  Region.wanted o (yielded ops.toArray a.tmps)=b:=by
 unfold vx at h;split at h
 ·rename_i ax;cases h;simp[Region.wanted,ax]
 ·rename_i j c ax;split at h
  ·cases h
  ·rename_i d ak;have jM:(ops[j]?).bind (·.dst)=some d:=by rw[Av]at ak;simpa using ak
   have anD:(ops.toArray[j]?).bind (·.dst)=some d:=by simpa using jM
   have aE:=GC anD a.tmps;have lW:d∈looks ops o:=O8 ax jM;split at h
   ·rename_i q aM;cases h;have av:=H _ lW _ aM;have aj:a.tmps.getD d undef=.bool q:=by
     have aa:=bs d;rcases av with⟨u,e,hu⟩ | ⟨fP,cU,e⟩;·rw[e]at aa;rw[aa,hu.bool]
     ·cases cU;rw[e]at aa;exact aa
    simp[Region.wanted,ax,aE,DN aj]
   ·rename_i l aM;cases h;have av:=H _ lW _ aM;obtain⟨u,e,hu⟩:=av.w9 (by simp);obtain⟨vs,_,rfl⟩:=hu.RZ;have aa:=bs d;rw[e]at aa;have uQ:yielded ops.toArray a.tmps j=none:=by
     rw[aE];cases jO:a.tmps[d]? with
     |none=>rfl| some v=>simp only[e5,pB,jO,kK]at aa;subst aa;rfl
    simp[Region.wanted,ax,uQ]
   ·cases h
def anE{o:Oper}{an:bm ap}(H:∀ t∈looks ops o,∀ v,an.get t=some v->gB D (F t) v):jn D F an o.op.operands.toList:=λx ad v aj=>by
 cases x with
 |tmp t=>exact H t (O9 (by simpa using ad)) v aj| const c=>exact(show qX D F .nil from λt v h=>by cases h).op [.const c] (.const c) (by simp) v aj| global g=>exact(show qX D F .nil from λt v h=>by cases h).op [.global g] (.global g) (by simp) v aj| func f=>exact(show qX D F .nil from λt v h=>by cases h).op [.func f] (.func f) (by simp) v aj
def anF{m m2:bm fx}{an:bm ap}(h:qz op=false):vv X.P X.E G m op an=vv X.P X.E G m2 op an:=by
 cases op with
 |load=>simp[qz]at h| slice t x lo hi mx=>cases mx<;>cases lo<;>cases hi<;>rfl
 |unOp u=>cases u<;>rfl
 |call c=>
  obtain⟨callee,args,e7⟩:=c;cases callee<;>rfl
 |_=>rfl
def Fk(X:c1)(G:GT)(pr:l8)(D0:bS)(n0:Nat)(ops:List Oper)(es:List Nat)(an:bm ap)(vs:List (Nat×ap))(S:List bz)(A:List qV)(L:Nat->Prop)(a:Act)(w:World):Prop:=
 ∃ D F C I M j r',Rel X a w F C I M/\(∀ q e,es[q]?=some e->(L e ↔ q<j))/\j<=es.length/\S[j]?=some r'/\df (ef X G pr) D r' I M/\(∀ i v t,L i->(i,v)∈vs->jh ops i=some t->gB D (F t) v) /\ (∀ t v,(∀ i,L i->jh ops i≠some t)->an.get t=some v->gB D (F t) v)/\(∀ i c l T,qV.made i c l T∈A->¬ L i->D c=none)/\D0.ext D n0
def Fk.an(dw:wB ops){L:Nat->Prop}{q:Nat}{o:Oper}(aM:ops[q]?=some o)(rE:¬ L q){vs:List (Nat×ap)}(Fl:(vs.map (·.1)).Nodup){v:ap}(aj:(q,v)∈vs){an:bm ap}(bk:D.le bG)(aH:vD o.dst v bG F c9)(dI:∀ i v t,L i->(i,v)∈vs->jh ops i=some t->gB D (F t) v)(anG:∀ t v,(∀ i,L i->jh ops i≠some t)->an.get t=some v->gB D (F t) v) :
  (∀ i v t,(L i\/i=q)->(i,v)∈vs->jh ops i=some t->gB bG (c9 t) v)/\(∀ t v,(∀ i,(L i\/i=q)->jh ops i≠some t)->an.get t=some v->gB bG (c9 t) v):=by
 have abk:jh ops q=o.dst:=by simp[jh,aM]
 constructor
 ·rintro i u t (hi | rfl) hm ah
  ·have bD:o.dst≠some t:=λe=>by obtain⟨gK,iq,qB⟩:=G2 ah;exact dw.O7 i q gK o t (λcU=>rE (cU ▸ hi)) iq aM qB e
   exact aH.2 bG t u bD ((dI i u t hi hm ah).mono bk)
  ·rw[abj Fl hm aj];rw[abk]at ah;exact aH.1 t ah
 ·intro t u eD ax;have bD:o.dst≠some t:=λe=>eD q (.inr rfl) (by rw[abk,e]);exact aH.2 bG t u bD ((anG t u (λi hi=>eD i (.inl hi)) ax).mono bk)
end
section
variable{X:c1}{G:GT}{pr:l8}{D0:bS}{n0:Nat}{a:Act}{w:World}
def Sx{g0:List Nat}:∀ {es:List Nat},Md g0 es=true->∀ (p q:Nat) (x y:Nat),p<q->es[p]?=some x->es[q]?=some y->(g0.getD y 0).testBit x=true
 |[],_,p,q,x,y,_,ad,_=>by simp at ad
 |e::es,h,p,q,x,y,mX,ad,aE=>by
  simp only[Md,cw]at h;cases q with
  |zero=>omega
  |succ q=>
   have tt:es[q]?=some y:=by simpa using aE
   cases p with
   |zero=>simp at ad;subst ad;exact fV.1 h.1 y (rv tt)| succ p=>exact Sx h.2 p q x y (by omega) (by simpa using ad) tt
def anH:e∈yK E ops ↔ e<ops.length/\CK E ops e=2:=by
 unfold yK;rw[n4,j0];constructor
 ·rintro⟨aa,ab⟩;exact⟨aa,dJ ab⟩
 ·rintro⟨aa,ab⟩;exact⟨aa,by rw[ab];rfl⟩
def abl{i:Nat}{o:Oper}(h:ops[i]?=some o):CK E ops i=lC E o.op:=by unfold CK;rw[Av,h];rfl
def gB.same{x:dH}{u v:ap}(h:gB D x u)(av:E2 u v=true):gB D x v:=by
 rcases h with⟨y,rfl,h⟩ | ⟨q,rfl,rfl⟩
 ·exact .val (abi av h)
 ·have:v=.b q:=by
   cases v<;>simp only[E2,k']at av
   rw[eq_of_beq av]
  exact .inr ⟨q,this,rfl⟩
def anI(aO:cX X.P X.E)(ko:∀ d,d<X.n->X.gJ.contains d=true)(mZ:IR (ef X G pr) call){id:Nat}{IX:Array Oper}(iA:X.P.follows .mixedOrders=true)(aD:xZ X.n IX=true)
  {an g7:bm ap} {m gM:bz} (h:RN (ef X G pr) call IX.toList an m=some (g7,gM)) (nA:∀ a w,lH X G pr D0 n0 g7 gM a w->Q .normal a w) (av:lH X G pr D0 n0 an m a w) :
  (Code.region id IX true).wpIn (g8 X) 0 X.P Q a w:=by
 refine wpIn_region_any iA ?_;generalize wA:IX.toList=ops at h;have anJ:IX=ops.toArray:=by apply gX;simpa using wA
 subst anJ;have h8:∀ o∈ops,∀ d,o.dst=some d->d<X.n:=by simpa using KH aD
 unfold RN at h;obtain⟨Fm,h⟩:=fZ h;unfold aag at Fm;simp only[cw]at Fm;obtain⟨anK,mF,abm,wX⟩:=Fm;have dw:wB ops:=Wq anK;have abn:((Iw X.E ops).filter λr=>Nat.beq r.2 2).map (·.1)=yK X.E ops:=by simpa using wX
 clear wX;generalize kr:yK X.E ops=es at *;have Sy:∀ e,e∈es ↔ e<ops.length/\CK X.E ops e=2:=λe=>by rw[<-kr];exact anH
 generalize CV:Iw X.E ops=row at *;cases k5:o6 (ef X G pr) call ops row an m [] []with
 |none=>rw[k5]at h;cases h| some anL=>
 obtain⟨anM,anN,jo,nV⟩:=anL;rw[k5]at h;have bj:b4 (nV.all (RM (ef X G pr) es (ll ops) jo.reverse)) (some (anM,anN)) none=some (g7,gM):=h;clear h;obtain⟨abo,bj⟩:=fZ bj;cases bj;obtain⟨vs,S,A,MJ,MK,anO,-⟩:=IV aO ko h8 mZ row k5;rw[dD]at MK;subst MK;rw[Sg]at abo;have abp:∀ y∈A,RM (ef X G pr) es (ll ops) S y=true:=λy aE=>fV.1 abo y (anO y aE);have jw:(row.map (·.1)).Nodup:=anC mF;obtain⟨axB,axC,axD,axE,axF,axG,axH,jx,mY,oN,j8,abq,axI,anP,anQ,axJ⟩:=l9.split row (bo:=[]) (by rw[dD];exact MJ);have anR:(row.filter λr=>Nat.beq r.2 2).length=es.length:=by rw[<-abn,bE]
 cases abq;rw[dD]at jx;subst jx;have Fl:(vs.map (·.1)).Nodup:=by rw[mY];exact jw
 have anS:=MJ.MG;have anT:∀ (a9:List (Nat×Nat)) (bo:List (Nat×Nat)),row=a9++bo->BM ops (λi=>i∈a9.map (·.1)):=λa9 bo l' j e ak he=>by
  obtain⟨⟨x,c⟩,ad,IW⟩:=c0.1 ak;have Sw:x=j:=IW;subst Sw;obtain⟨Ef,Eg,aK⟩:=vt ad;rcases(MH mF Ef x c (Eg++bo) (by rw[l',aK];simp)).2.2.2 e he with h | h;·simp at h
  ·show e∈a9.map (·.1);rw[aK,cS];exact cC.2 (.inl h)
 let J:=Fk X G pr D0 n0 ops es an vs S A
 have key:=anx (X:=X) (ops:=ops) (Q:=Q) dw.lt J ?step ?fin ops.length (Array.replicate ops.length false) a { w with drawn:=w.drawn+1 } (by simp) (by unfold todo;exact ja (DR _ _) (by simp)) ?cl ?start
 case cl=>
  intro j e ak;exfalso;by_cases hi:j<ops.length<;>simp[pB,hi]at ak
 case start=>
  obtain⟨D,F,C,I,M,⟨β,aX⟩,bs,mE,ad,qG⟩:=av;obtain⟨m2,yT,anU,ax⟩:=MJ.head;have b8:∀ i,¬ (Array.replicate ops.length false).getD i false=true:=λi=>by
   by_cases hi:i<ops.length<;>simp[pB,hi]
  refine⟨D,F,C,I,M,0,m2,⟨β,aX.world rfl⟩,λq e _=>⟨λh=>(b8 e h).elim,λh=>by omega⟩,dj _,by rw[anU];rfl,mE.grow ax,λi v t hi=>(b8 i hi).elim,λt v _ ax=>bs t v ax,λi c l T rL _=>?_,ad⟩;have:=(anS.2 i c l T rL).1;cases IY:D c with
  |none=>rfl| some b=>have:=mE.jV _ _ IY;omega
 case fin=>
  rintro a w⟨D,F,C,I,M,j,r',aX,xl,ak,vH,mE,CW,CX,hC,ad⟩;have gn:j=es.length:=by
   refine Nat.le_antisymm ak ?_;by_cases aw:es.length=0;·omega
   ·have a4:es.length-1<es.length:=by omega
    have aa:=(xl (es.length-1) es[es.length-1] (dt a4)).1 ((Sy _).1 (bJ a4)).1;omega
  have anV:r'=gM:=by rw[gn,oN,lx (by omega),j8,anR]at vH;simpa using vH.symm
  subst anV;refine nA a w ⟨D,F,C,I,M,aX,λt v ax=>?_,mE,ad,?_⟩
  ·rcases anQ t v ax with⟨i,aa,ab⟩ | ⟨aa,ab⟩
   ·obtain⟨gK,iq,_⟩:=G2 ab;exact CW i v t (iz.1 iq).1 aa ab
   ·refine CX t v (λi hi=>?_) ab;rcases Sv mF i hi with ai | ai
    ·simp at ai
    ·exact aa i ai
  ·obtain⟨bG,c9,C',I',M',_,_,_,_,qG⟩:=av;exact ja qG anP
 case step=>
  rintro L a w q o⟨D,F,C,I,M,j,r',⟨β,aX⟩,xl,ak,vH,mE,CW,CX,hC,ad⟩dm AM aM rE ML;have hA:q<ops.length:=(iz.1 aM).1;have uW:=h8 o (rv aM);obtain⟨⟨fP,k⟩,anW,Sz⟩:=c0.1 ((Sv mF q hA).resolve_left (by simp));have anX:fP=q:=Sz;subst anX;obtain⟨a9,post,de⟩:=vt anW;obtain⟨-,-,abr,anY⟩:=MH mF a9 fP k post de;have anZ:∀ e,mV ops fP e->e∈a9.map (·.1):=λe he=>(anY e he).resolve_left (by simp);have SA:=anT a9 ((fP,k)::post) de;have abt:=MJ;rw[de]at abt;obtain⟨xh,yS,fI,cM,vF,yT,xi,aK,a7,ck,dM,jR,kA,vG,xj,xk⟩:=l9.split a9 abt;have axK:=jR.MG;have H:∀ t∈looks ops o,∀ v,fI.get t=some v->gB D (F t) v:=λt au v aj=>by
   rcases xj t v aj with⟨i,aa,ab⟩ | ⟨aa,ab⟩
   ·obtain⟨gK,iq,qB⟩:=G2 ab;have abu:i∈a9.map (·.1):=by rw[<-a7];exact c0.2 ⟨_,aa,rfl⟩
    have bD:i≠fP:=λe=>abr (e ▸ abu);rcases dw.ord i fP gK o t bD iq aM qB au with ag | ag;·exact CW i v t (ag.mem dm ML) (by rw[aK];exact cC.2 (.inl aa)) ab
    ·exact(abr (ag.mem SA λe he=>SA i e abu he)).elim
   ·refine CX t v (λi hi kS=>?_) ab;obtain⟨gK,iq,qB⟩:=G2 kS;have bD:i≠fP:=λe=>rE (e ▸ hi);rcases dw.ord i fP gK o t bD iq aM qB au with ag | ag
    ·exact aa i (ag.mem SA anZ) kS
    ·exact rE (ag.mem dm λe he=>dm i e hi he)
  have s9:jn D F fI o.op.operands.toList:=anE H;have eZ:E1 es (ll ops) fP<=j:=filter_le λp e aH ag=>by exact(xl p e aH).1 ((zD ag).mem dm ML)
  have gI:j<=lD es (ll ops) fP:=le_filter ak λp e aH SB=>by
   cases ag:((ll ops).getD e 0).testBit fP with
   |false=>rfl| true=>have vI:L e:=(xl p e SB).2 aH;exact(rE ((zD ag).mem dm λd ah=>dm e d vI ah)).elim
  have abv:lC X.E o.op≠2->∀ p e,es[p]?=some e->((L e\/e=fP) ↔ p<j):=λae p e aH=>by
   have bD:e≠fP:=λhe=>ae (by
    have:=((Sy e).1 (rv aH)).2;rw[he,abl aM]at this;exact this)
   exact⟨λc4=>(xl p e aH).1 (c4.resolve_right bD),λc4=>.inl ((xl p e aH).2 c4)⟩
  have SC:lC X.E o.op=2->es[j]?=some fP/\j+1<=es.length/\∀ p e,es[p]?=some e->((L e\/e=fP) ↔ p<j+1):=λae=>by
   have Sz:fP∈es:=(Sy fP).2 ⟨hA,by rw[abl aM];exact ae⟩;obtain⟨AN,gC⟩:=LY Sz;have axL:=(iz.1 gC).1;have aa:¬ AN<j:=λc4=>rE ((xl AN fP gC).2 c4);have ab:¬ j<AN:=λc4=>by
    have gn:j<es.length:=by omega
    have SD:=Sx abm j AN es[j] fP c4 (dt gn) gC;have:=(xl j es[j] (dt gn)).1 ((zD SD).mem dm ML);omega
   have ai:AN=j:=by omega
   subst ai;refine⟨gC,by omega,λp e aH=>⟨λc4=>?_,λc4=>?_⟩⟩
   ·rcases c4 with c4 | rfl
    ·have:=(xl p e aH).1 c4;omega
    ·refine GR λaD=>?_;have SD:=Sx abm AN p e e (by omega) gC aH;exact rE ((zD SD).mem dm ML)
   ·by_cases sD:p<AN
    ·exact .inl ((xl p e aH).2 sD)
    ·have:p=AN:=by omega
     subst this;rw[gC]at aH;exact .inr (pb aH).symm
  have plain:∀ {v:ap} {c9:Fr} {C':dO} {bN:Act} {w':World},(fP,v)∈vs->lC X.E o.op≠2->(∀ l T c,qV.made fP c l T ∉ A\/True)->Rel X bN w' c9 C' I M->vD o.dst v D F c9->J (λj=>L j\/j=fP) bN w':=fun {v c9 C' bN w'} aj ae _ rG aH=>by obtain⟨f1,f2⟩:=Fk.an dw aM rE Fl aj (bS.le_refl D) aH CW CX;exact⟨D,c9,C',I,M,j,r',rG,abv ae,ak,vH,mE,f1,f2,λi c l T hm eD=>hC i c l T hm λhi=>eD (.inl hi),ad⟩
  have IZ:∀ {v:ap} {bo:List (Nat×ap)},yS=(fP,v)::bo->(fP,v)∈vs:=fun {v bo} he=>by rw[aK,he];exact cC.2 (.inr (by simp))
  have an0:n0<=cM.n:=by obtain⟨bG,c9,C',I',M',_,_,_,_,qG⟩:=av;exact ja qG vG
  have abw:∀ {k:Nat},k=2->row=a9++(fP,k)::post->lC X.E o.op=2->vF.length=j:=fun {k} e1 an1 ae=>by
   obtain⟨SE,gn,_⟩:=SC ae;have an2:es=(a9.filter λr=>Nat.beq r.2 2).map (·.1)++fP::((post.filter λr=>Nat.beq r.2 2).map (·.1)):=by rw[<-abn,an1,EM,cS,x5];subst e1;simp
   have bV:es.Nodup:=by rw[<-kr];exact BJ.sublist zT
   have aa:es[vF.length]?=some fP:=by rw[an2,lx (by rw[bE,dM];exact b2 _),bE,dM,mD];rfl
   have u0:=(iz.1 aa).1;exact(List.getElem?_inj u0 bV).1 (by rw[aa,SE])
  cases jR with
  | @q i o' bo nd jT v dd tr SF SG jW og aC ae CY aj aH t=>
   have nh:o'=o:=pb (aC.symm.trans aM);subst nh;have hw:=MI CY aX.an H;refine⟨λ_=>?_,λaB=>by rw[hw]at aB;cases aB⟩;obtain⟨u,hu,an3⟩:∃ u,vv X.P X.E G r'.t o'.op fI=some u/\∀ x,gB D x u->gB D x v:=by
    cases aA:qz o'.op with
    |false=>exact⟨v,by rw[anF aA (m2:=cM.t)];exact aj,λ_ h=>h⟩
    |true=>
     have gk:qV.load fP o' fI v∈A:=kA _ (by rw[aA];simp);have aa:=abp _ gk;have ab:=abh (show E3 S (E1 es (ll ops) fP) (lD es (ll ops) fP) (RK (ef X G pr) o' fI v)=true from aa) eZ gI vH;unfold RK at ab;split at ab;·rename_i u hu;exact⟨u,hu,λx ad=>ad.same ab⟩
     ·cases ab
   refine tk (λbN w'=>?_) (DM aO uW ⟨β,aX⟩ (abd (K:=λc9 C' I' M'=>I'=I/\M'=M/\vD o'.dst v D F c9) aO uW ae hu s9 mE λx ad=>⟨rfl,rfl,.put F (an3 x ad)⟩));rintro⟨c9,C',I',M',fA,rfl,rfl,St⟩;exact plain (IZ rfl) (by rw[ae];decide) (λ_ _ _=>.inr trivial) fA St
  | @a i o' d bo nd jT m' l T c mk dd tr SF SG jW og aC ae CY ah aj an4 aH t=>
   have nh:o'=o:=pb (aC.symm.trans aM);subst nh;have hw:=MI CY aX.an H;refine⟨λ_=>?_,λaB=>by rw[hw]at aB;cases aB⟩;have gk:qV.made fP cM.n l T∈A:=kA _ (by simp);have aa:=abp _ gk;have ab:=abh (show E3 S (E1 es (ll ops) fP) (lD es (ll ops) fP) (RL cM.n l T)=true from aa) eZ gI vH;unfold RL at ab;rw[cw]at ab;obtain⟨Fo,ab⟩:=ab;have an5:cM.n<r'.n:=bK Fo;split at ab
   ·rename_i cs ml fN qq;simp only[cw]at ab;obtain⟨bl,AB,ab⟩:=ab;have GB:=dJ bl;subst GB;have aa6:=dJ AB;subst aa6;split at ab
    ·rename_i dC rp;obtain⟨Fp,fF,fB,l0⟩:=bm.E5 cs l.length 0 _ _ rp;have wM:Fp=dC:=pb l0;subst wM;have IY:D cM.n=none:=hC fP cM.n l ml gk rE;refine tk (λbN w'=>?_) (DM aO uW ⟨β,aX⟩ (aaP (K:=λc9 C' I' M'=>∃ b us u,I'=I/\M'=⟨b,.cells us.toArray ml (0,0)⟩::M/\I b=none/\(∀ x∈M,x.num≠b)/\bO D l us/\(∀ i,X.E ml=some i->us.length=c*i.size)/\c<=maxLen /\ (∀ (bG:bS) id,bG id=some ⟨b,0,c⟩->aW bG (mk id) u)/\AA o'.dst u F c9) aO ko uW aj (by rw[ah];rfl) s9 λb us u c9 C' a' bg b5 gf n6 LB SH=>⟨b,us,u,rfl,rfl,a',bg,b5,gf,n6,LB,SH⟩));rintro⟨c9,C',I',M',fA,b,us,u,rfl,rfl,a',bg,b5,gf,n6,LB,SH⟩;have bk:D.le (D.set cM.n ⟨b,0,c⟩):=bS.Az _ IY;have CZ:vD o'.dst (mk cM.n) (D.set cM.n ⟨b,0,c⟩) F c9:=SH.v (LB _ _ (bS.p8 _ _ _));obtain⟨f1,f2⟩:=Fk.an dw aM rE Fl (IZ rfl) bk CZ CW CX;have sM:=Fj ab b5;have g1:∀ id,id≠cM.n->(D.set cM.n ⟨b,0,c⟩) id=D id:=λid kf=>by unfold bS.set;rw[bP kf]
     have IQ:∀ id e jb,r'.t.get id=some e->D id=some jb->jb.b≠b:=λid e jb hi hk CT=>by obtain⟨x,CP,AO⟩:=mE.ar hi hk;exact bg x CP (AO.trans CT)
     refine⟨D.set cM.n ⟨b,0,c⟩,c9,C',I',_,j,r',fA,abv (by rw[ae];decide),ak,vH,?_,f1,f2,?_,λi hi=>?_⟩
     ·refine⟨λid e jb hi hk=>?_,λid iW e cU b1 bW hi cG aa ab CT=>?_,λid jb hk=>?_,mE.qW⟩
      ·by_cases kf:id=cM.n
       ·subst kf;rw[bS.p8]at hk;cases hk;rw[qq]at hi;cases hi;refine .cells us.toArray rfl (by simp) (by simp[b5.len]) (λi v hi aj=>?_) (λi hi=>by simpa using gf i hi) n6;have j3:Fp[i]?=some v:=by have:=fB i hi;rw[dp,aj]at this;exact this.symm
        obtain⟨x,CP,AO⟩:=sM.get j3;exact⟨x,by simpa using CP,AO.mono bk⟩
       ·rw[g1 id kf]at hk;exact(mE.iV id e jb hi hk).mono bk λx ad _=>nS _ ad
      ·by_cases kf:id=cM.n
       ·by_cases I0:iW=cM.n
        ·rw[kf,I0]
        ·rw[g1 iW I0]at ab;rw[kf,bS.p8]at aa;cases aa;exact(IQ iW cU bW cG ab CT.symm).elim
       ·rw[g1 id kf]at aa;by_cases I0:iW=cM.n
        ·rw[I0,bS.p8]at ab;cases ab;exact(IQ id e b1 hi aa CT).elim
        ·rw[g1 iW I0]at ab;exact mE.inj id iW e cU b1 bW hi cG aa ab CT
      ·by_cases kf:id=cM.n
       ·rw[kf];exact an5
       ·rw[g1 id kf]at hk;exact mE.jV _ _ hk
     ·intro i c' dC Ca rL eD;have an6:c'≠cM.n:=λe=>by
       rcases xk i c' dC Ca rL with h | h
       ·rcases eA.1 h with h | h
        ·cases h;exact eD (.inr rfl)
        ·have:=(t.MG.2 i c' dC Ca h).1;have:=an4.1;omega
       ·omega
      rw[g1 c' an6];exact hC i c' dC Ca rL λhi=>eD (.inl hi)
     ·rw[g1 i (by omega)];exact ad i hi
    ·cases ab
   ·cases ab
  | @e i o' bo nd jT m' v dd tr SF SG jW og aC ae CY IT aH t=>
   have nh:o'=o:=pb (aC.symm.trans aM);subst nh;have hw:=MI CY aX.an H;refine⟨λ_=>?_,λaB=>by rw[hw]at aB;cases aB⟩;obtain⟨SE,gn,SI⟩:=SC ae;have I2:=abw rfl de ae;have SJ:r'=cM:=by rw[ck,lx (by omega),I2,mD]at vH;simpa using vH.symm
   subst SJ;obtain⟨m2,an7,SK,SL⟩:=t.head;refine tk (λbN w'=>?_) (DM aO uW ⟨β,aX⟩ (IT.2 D F C I M (λc9 C' I' M'=>∃ bG,D.ext bG r'.n/\vD o'.dst v bG F c9/\df (ef X G pr) bG m' I' M') s9 mE λbG c9 C' I' M' a' bg b5=>⟨bG,a',bg,b5⟩));rintro⟨c9,C',I',M',fA,bG,a',bg,b5⟩;have bk:=mE.le a';obtain⟨f1,f2⟩:=Fk.an dw aM rE Fl (IZ rfl) bk bg CW CX;refine⟨bG,c9,C',I',M',j+1,m2,fA,SI,gn,?_,b5.grow SL,f1,f2,λi c l T rL eD=>?_,bS.abf ad a' an0⟩;·rw[ck,lx (by omega),I2,show j+1-j=0+1 by omega,Gt,SK];rfl
   ·rcases xk i c l T rL with h | h
    ·have:=(t.MG.2 i c l T h).1;cases IY:bG c with
     |none=>rfl| some b=>have:=b5.jV _ _ IY;omega
    ·rw[a' c h];exact hC i c l T rL λhi=>eD (.inl hi)
  | @skip i fu o' bo nd jT dd tr SF SG jW og aC ae CY aH t=>
   have nh:o'=o:=pb (aC.symm.trans aM);subst nh;have hw:=MI CY aX.an H;refine⟨λaB=>(by rw[hw]at aB;cases aB),λ_=>?_⟩;have rG:Rel X (a.put o'.dst undef) w (put o'.dst (.val undef) F) C I M:=⟨β,aX.put (x:=.val undef) uW rfl⟩;have CZ:vD o'.dst (.t []) D F (put o'.dst (.val undef) F):=.put F (.val .undef);by_cases e1:k=2
   ·subst e1;obtain⟨SE,gn,SI⟩:=SC ae;have I2:=abw rfl de ae;have SJ:r'=cM:=by rw[ck,lx (by omega),I2,mD]at vH;simpa using vH.symm
    subst SJ;obtain⟨m2,an7,SK,SL⟩:=t.head;obtain⟨f1,f2⟩:=Fk.an dw aM rE Fl (IZ rfl) (bS.le_refl D) CZ CW CX;refine⟨D,_,C,I,M,j+1,m2,rG,SI,gn,?_,mE.grow SL,f1,f2,λi c l T rL eD=>hC i c l T rL λhi=>eD (.inl hi),ad⟩;rw[ck,lx (by omega),I2,show j+1-j=0+1 by omega];show(r'::jW)[0+1]?=some m2;rw[Gt,SK];rfl
   ·exact plain (IZ rfl) (by rw[ae];exact e1) (λ_ _ _=>.inr trivial) rG CZ
 simpa using key
end
def C0{n:Nat}:∀ {c:Code},ib n c=true->codeOk n c=true
 | .seq x y,h=>by simp only[ib,codeOk,cw]at h |-;exact⟨C0 h.1,C0 h.2⟩
 | .block _ c,h=>by simp only[ib,codeOk]at h |-;exact C0 h
 | .cond _ x y,h=>by simp only[ib,codeOk,cw]at h |-;exact⟨C0 h.1,C0 h.2⟩
 | .loop c,h=>by simp only[ib,codeOk]at h |-;exact C0 h
 | .region _ ops _,h=>h| .scope c,h=>rfl| .rangeFunc ..,h=>rfl| .skip,h | .exit _,h | .label _,h | .goto _,h | .ret,h | .refuse _,h=>rfl
def SM{n:Nat}:∀ {c:Code} {l:Nat} {r:Code},ib n c=true->findLabel c l=some r->ib n r=true
 | .seq x y,l,r,h,aA=>by
  simp only[ib,cw]at h;simp only[findLabel]at aA;split at aA;·rename_i bo af;cases aA;simp only[ib,cw];exact⟨SM h.1 af,h.2⟩
  ·exact SM h.2 aA
 | .label dC,l,r,h,aA=>by
  simp only[findLabel]at aA;split at aA;·cases aA;rfl
  ·cases aA
 | .skip,_,_,_,aA | .exit _,_,_,_,aA | .goto _,_,_,_,aA | .ret,_,_,_,aA | .refuse _,_,_,_,aA | .block _ _,_,_,_,aA | .cond _ _ _,_,_,_,aA | .loop _,_,_,_,aA | .scope _,_,_,_,aA | .region _ _ _,_,_,_,aA | .rangeFunc _ _ _ _,_,_,_,aA=>by simp[findLabel]at aA
def xm(P:Program):Prop:=∀ (g:Nat) (fn:Func) (c:Code),P.funcs[g]?=some fn->fn.body=some c->ib fn.ntmps c=true/\(fn.name == "runtime.NumGoroutine")=false
def an8(P:Program):Bool:=P.funcs.toList.all λfn=>match fn.body with
 |some c=>ib fn.ntmps c && !(fn.name == "runtime.NumGoroutine")
 |none=>true
def an9(h:an8 P=true):xm P:=λg fn c aB ag=>by have aa:=fV.1 h fn (by rw[<-Array.mem_def];exact Array.mem_of_getElem? aB);simp only[ag,cw,tx]at aa;exact aa
def yU(Y:gU):Prop:=∀ g vs m v m',Y.pr g vs m=some (v,m')->∀ (D:bS) (I:aJ) (M:List aF) (us:List Value),bO D vs us->df Y D m I M->Spec Y.P g us I M λr I' M'=>∃ bG,D.ext bG m.n/\aW bG v r/\df Y bG m' I' M'
def AP:tv->Exit
 | .normal=>.normal| .exit id=>.exit id| .goto l=>.goto l| .ret=>.ret
def jX(Y:gU)(n B:Nat)(aw:World)(dS:aJ)(foot:List Nat)(ro:Option Nat):c1:=⟨Y.P,Y.E,List.range n,n,B,aw,dS,foot,ro⟩
def jX.gJ{Y:gU}{n B:Nat}{aw:World}{dS:aJ}{foot:List Nat}{ro:Option Nat}:∀ d,d<(jX Y n B aw dS foot ro).n->(jX Y n B aw dS foot ro).gJ.contains d=true:=λd ah=>by have fE:d<n:=ah;show(List.range n).contains d=true;simpa using fE
def C1(Y:gU)(f:Nat):Prop:=∀ gF n c an m ex dd m',lE Y f gF n c an m=some (ex,dd,m')->ib n c=true->∀ B aw dS foot ro D0 n0 a w,(gF=true->ro=none)->lH (jX Y n B aw dS foot ro) Y.G Y.pr D0 n0 an m a w -> c.wpIn (g8 (jX Y n B aw dS foot ro)) 0 Y.P (λe a w=>e=AP ex/\lH (jX Y n B aw dS foot ro) Y.G Y.pr D0 n0 dd m' a w) a w
def SN{α:Type}:∀ (n k:Nat),(bm.bare n:bm α).get k=none
 |0,k=>rfl
 |n+1,k=>by
  rw[bm.bare,bm.Iz];cases Nat.beq k 0 with
  |true=>rfl
  |false=>
   cases Nat.beq (k%2) 1 with
   |true=>exact SN n _| false=>exact SN n _
section
variable{X:c1}{G:GT}{pr:l8}{D:bS}{m:bz}{F:Fr}{an:bm ap}{C:dO}{I:aJ}{M:List aF}
def SO(bs:qX D F an)(hm:df (ef X G pr) D m I M):∀ {ba:List ResultVar} {vs:List ap} {K:List Value->Prop},Ar (ef X G pr) an m.t ba=some vs->(∀ us,bO D vs us->K us)->pG X F C I M ba K
 |[],vs,K,h,ae=>by simp only[Ar]at h;cases h;exact ae [] .nil
 | .tmp t::l,vs,K,h,ae=>by
  simp only[Ar]at h;split at h;·rename_i v tr aa ab;cases h;obtain⟨u,aK,a'⟩:=(show gB D (dn F (.tmp t)) v from bs t v aa).dB;unfold pG;rw[aK];exact SO bs hm ab λus fK=>ae _ (.cons a' fK)
  ·cases h
 | .cell t ty::l,vs,K,h,ae=>by
  simp only[Ar]at h;split at h
  ·rename_i x i tr aa ab ai;split at h
   ·rename_i v aj;cases h;have xe:∀ q,x≠.b q:=λq e=>by subst e;cases aj
    obtain⟨u,aK,a'⟩:=gB.w9 (bs t x aa:gB D (dn F (.tmp t)) x) xe;obtain⟨aP,dC,Fq,rfl,bt,aA,aH⟩:=xb hm a' aj;have m4:X.E ty=some i:=ab;have eB:dn F (.tmp t)=.val (.pointer (some aP)):=aK;unfold pG;rw[eB,m4];exact⟨Fq,bt,SO bs hm ai λus fK=>ae _ (.cons (Mp aH aA) fK)⟩
   ·cases h
  ·cases h
end
def abx(aO:cX Y.P Y.E)(bs:xm Y.P)(l':yU Y)(ao:C1 Y f){m:bz}{v:ap}{fn:Func}{c:Code}(aB:Y.P.funcs[g]?=some fn)(ag:fn.body=some c)(bk:args.length<=fn.ntmps){an dd:bm ap}(xT:∀ t w,an.get t=some w->args[t]?=some w){cM:bz}(hex:ex=.normal\/ex=.ret)(h:lE Y f true fn.ntmps c an m=some (ex,dd,cM)){vs:List ap}(af:Ar Y dd cM.t fn.results.toList=some vs)
  (aj:v=aah vs) (hu:bO D args us) (hm:df Y D m I M):wh Y.P g us I M λr I' M'=>∃ bG,D.ext bG m.n/\aW bG v r/\df Y bG cM I' M':=by
 obtain⟨bi,mq⟩:=bs g fn c aB ag;refine OW (List.range fn.ntmps) aO aB ag mq ?_ λB aw a w aX=>?_
 ·rw[cw];exact⟨C0 bi,EL (by rw[hu.len];exact bk)⟩
 ·have aoa:qX D (x1 us) an:=λt w hw=>by obtain⟨x,aa,ab⟩:=hu.get (xT t w hw);refine .inl ⟨x,?_,ab⟩;simp only[x1,aa]
  have fa:lH (jX Y fn.ntmps B aw I (M.map (·.num)) none) Y.G Y.pr D m.n an m a w:=⟨D,_,_,I,M,aX,aoa,hm,bS.pe,b2 _⟩;refine wpIn_mono (ao _ _ _ _ _ _ _ _ h bi B aw I (M.map (·.num)) none D m.n a w (λ_=>rfl) fa) ?_;rintro e bN w'⟨rfl,bG,c9,C',I',M',rG,mP,sH,ad,aD⟩;have HM:∀ CS,CS=.normal\/CS=.ret->wu (jX Y fn.ntmps B aw I (M.map (·.num)) none) fn.results.toList (λr I' M'=>∃ bG,D.ext bG m.n/\aW bG v r/\df Y bG cM I' M') CS c9 C' I' M':=λCS he=>by
   have Fs:=SO (X:=jX Y fn.ntmps B aw I (M.map (·.num)) none) (G:=Y.G) (pr:=Y.pr) (C:=C') mP sH af (K:=λvs=>match vs with
    |[qZ]=>wq (M.map (·.num)) I' M' ((λr I' M'=>∃ bG,D.ext bG m.n/\aW bG v r/\df Y bG cM I' M') qZ)
    |vs=>wq (M.map (·.num)) I' M' ((λr I' M'=>∃ bG,D.ext bG m.n/\aW bG v r/\df Y bG cM I' M') (.tuple vs.toArray))) λFq fK=>by
     clear af
     match vs,Fq,fK,aj with
     |[],Fq,fK,aj=>rw[fK.nU];refine⟨I',M',.refl,bG,ad,?_,sH⟩;rw[aj];exact .Mo .nil| [v1],Fq,fK,aj=>obtain⟨x,xs,aa,ab,rfl⟩:=fK.ky;rw[ab.nU];refine⟨I',M',.refl,bG,ad,?_,sH⟩;rw[aj];exact aa
     |v1::v2::vs,Fq,fK,aj=>obtain⟨x,xs,aa,ab,rfl⟩:=fK.ky;obtain⟨y,ys,ai,aL,rfl⟩:=ab.ky;refine⟨I',M',.refl,bG,ad,?_,sH⟩;rw[aj];exact .Mo fK
   rcases he with rfl | rfl<;>exact Fs
  rcases hex with rfl | rfl;·exact⟨c9,C',I',M',rG,HM _ (.inl rfl)⟩
  ·exact⟨c9,C',I',M',rG,HM _ (.inr rfl)⟩
def Spec.mH{args:List Value}{p q:Value->aJ->List aF->Prop}(h:Spec P f args I M p)(ae:∀ v I' M',p v I' M'->q v I' M'):Spec P f args I M q:=by
 rcases h with⟨aa,ab⟩ | h
 ·refine .inl ⟨aa,λw hw=>?_⟩;refine(ab w hw).mono ?_;rintro e w'⟨v,I',M',aK,a7,ck,dM⟩;exact⟨v,I',M',aK,ae _ _ _ a7,ck,dM⟩
 ·refine .inr λw hw=>?_;obtain⟨v,w',I',M',aK,a7,ck,dM⟩:=h w hw;exact⟨v,w',I',M',aK,ae _ _ _ a7,ck,dM⟩
section
variable{Y:gU}{D:bS}{m m':bz}{I:aJ}{M:List aF}
def aby(aO:cX Y.P Y.E)(bs:xm Y.P)(l':yU Y)(ao:C1 Y f){v:ap}(h:Mf Y (lE Y f) g args m=some (v,m'))(hu:bO D args us)(hm:df Y D m I M) :
  wh Y.P g us I M λr I' M'=>∃ bG,D.ext bG m.n/\aW bG v r/\df Y bG m' I' M':=by
 unfold Mf at h;obtain⟨fn,aB,aa⟩:=cy h;obtain⟨c,ag,ab⟩:=cy aa;obtain⟨bk,ai⟩:=fZ ab;obtain⟨an,a',bg⟩:=bm.yM args (bm.bare 12) 0;rw[a']at ai;have xT:∀ t w,an.get t=some w->args[t]?=some w:=λt w hw=>by
  rcases bg t w hw with⟨_,h⟩ | ⟨_,h⟩;·simpa using h
  ·rw[SN]at h;cases h
 unfold aai at ai;split at ai
 ·rename_i dd cM ad;unfold Me at ai;obtain⟨vs,af,aL⟩:=cy ai;cases aL;exact abx aO bs l' ao aB ag (bK bk) xT (.inl rfl) ad af rfl hu hm
 ·rename_i dd cM ad;unfold Me at ai;obtain⟨vs,af,aL⟩:=cy ai;cases aL;exact abx aO bs l' ao aB ag (bK bk) xT (.inr rfl) ad af rfl hu hm
 ·cases ai
def abz(aO:cX Y.P Y.E)(bs:xm Y.P)(l':yU Y)(ao:C1 Y f){v:ap}(h:yL Y (lE Y f) g args m=some (v,m'))(hu:bO D args us)(hm:df Y D m I M) :
  Spec Y.P g us I M λr I' M'=>∃ bG,D.ext bG m.n/\aW bG v r/\df Y bG m' I' M':=by
 unfold yL at h;cases aH:Y.pr g args m with
 |none=>rw[aH]at h;exact .inl (aby aO bs l' ao h hu hm)| some p=>rw[aH]at h;have bj:some p=some (v,m'):=h;cases bj;exact l' g args m v m' aH D I M us hu hm
def cL.kept{a:Act}{W:World}{C:dO}(h:cL X β a w F C I' M')(aa:X.aw=W)(ab:X.B=W.heap.size)(ai:X.dS=dS)(aL:X.foot=M0.map (·.num)):Kept dS M0 W I' M' w where
 le:=by rw[<-ai];exact h.ij
 uM b o ag:=by
  rcases h.hU b o ag with bq | bq;·exact .inl (by rw[<-ai];exact bq)
  ·exact .inr (by rw[<-ab];exact bq)
 wg x ad:=by
  rcases h.own x ad with bq | bq;·rw[aL]at bq;obtain⟨y,aE,e⟩:=c0.1 bq;exact .inl ⟨y,aE,e⟩
  ·exact .inr (by rw[<-ab];exact bq)
 dK b ag aD:=by rw[<-aa];refine h.dK b (by rw[ab];exact ag) λhm=>?_;rw[aL]at hm;obtain⟨y,aE,e⟩:=c0.1 hm;exact aD y aE e
 out:=by rw[<-aa];exact h.out
 sz:=by rw[<-ab];exact h.sz
def abA{R:Type}:∀ {ps:List Nat} {args:List ap} {nd:bm ap} {K:bm ap->Option R} {r:R} {us:List Value} {tmps:Array Value},E4 ps args nd K=some r->bO D args us->(∀ t∈ps,t<tmps.size)->(∀ t v,nd.get t=some v->aW D v (tmps.getD t undef)) -> ∃ fI,K fI=some r/\us.length=ps.length/\((ps.zip us).foldl (λ(tmps:Array Value) (p:Nat×Value)=>tmps.setIfInBounds p.1 p.2) tmps).size=tmps.size /\ ∀ t v,fI.get t=some v->aW D v (((ps.zip us).foldl (λ(tmps:Array Value) (p:Nat×Value)=>tmps.setIfInBounds p.1 p.2) tmps).getD t undef)
 |[],[],nd,K,r,us,tmps,h,hu,aH,aw=>by have:=hu.nU;subst this;exact⟨nd,h,rfl,rfl,aw⟩
 |[],_::_,nd,K,r,us,tmps,h,hu,aH,aw=>by simp[E4]at h
 |_::_,[],nd,K,r,us,tmps,h,hu,aH,aw=>by simp[E4]at h
 |t0::ps,xn::args,nd,K,r,us,tmps,h,hu,aH,aw=>by
  obtain⟨x,xs,a',bg,rfl⟩:=hu.ky;simp only[E4]at h;obtain⟨fI,aa,ab⟩:=bm.o7 (some xn) nd t0;rw[aa]at h;have a4:=aH t0 (by simp);obtain⟨vJ,ai,aL,bq,b'⟩:=abA (tmps:=tmps.setIfInBounds t0 x) h bg (λt au=>by simpa using aH t (by simp[au])) λt v au=>by
   rw[pB,DD];rcases ab t v au with⟨rfl,e⟩ | ⟨bD,ax⟩;·have:=(pb e);subst this;simp only[sv,a4];exact a'
   ·rw[bP (su bD),<-pB];exact aw t v ax
  exact⟨vJ,ai,by simp[aL],by simpa using bq,b'⟩
def lF.MM{a:Loc}{an:bm ap}(h:lF D E M a (.loop b n an ps fj body)):∃ L,(⟨a.b,.loop L⟩:aF)∈M/\aar D b n an ps fj body L:=by
 cases h with
 |loop L aa ab=>exact⟨L,aa,ab⟩
def lF.aob{a:Loc}{c:Code}{an:bm ap}(h:lF D E M a (.done c n an ps fj body)):∃ L,(⟨a.b,.loop L⟩:aF)∈M/\L.state=.done/\L.pending=some c:=by
 cases h with
 |done L aa ab ai=>exact⟨L,aa,ab,ai⟩
def df.swap(h:df Y D m I M){bf:bm fx}{l:Nat}{di aK:fx}{o o':Obj}{Mr:List aF}(ax:m.t.get l=some di)(a6:D l=some iT)(bb:M.Perm (⟨iT.b,o⟩::Mr))(au:∀ id e,bf.get id=some e->(id=l/\some aK=some e)\/(id≠l/\m.t.get id=some e))
  (he:lF D Y.E (⟨iT.b,o'⟩::Mr) iT aK):df Y D ⟨bf,m.n⟩ I (⟨iT.b,o'⟩::Mr):=by
 refine h.step (λid e hi=>(au id e hi).imp (λq=>⟨q.1,pb q.2⟩) λq=>q) a6 (bS.le_refl D) (λ_ _=>rfl) h.jV (λ_ _ h=>h) (λid e bN bD hi q0 x ad aD=>?_) he λid e bN bD hi q0 ag=>bD (h.inj _ _ _ _ _ _ hi ax q0 a6 ag);rcases eA.1 (bb.mem_iff.1 ad)with rfl | ad
 ·exact(bD (h.inj _ _ _ _ _ _ hi ax q0 a6 aD.symm)).elim
 ·exact nS _ ad
end
section
variable{Y:gU}{D:bS}{m m':bz}{I:aJ}{M:List aF}
def aoc(ao:C1 Y f){l:Nat}{v:ap}(h:RR (lE Y f) l args m=some (v,m'))(aA:D l=some iT)(hu:bO D args us)(hm:df Y D m I M) :
  DZ Y.P iT.b us I M λr I' M'=>∃ bG,D.ext bG m.n/\aW bG v r/\df Y bG m' I' M':=by
 unfold RR at h;split at h
 ·rename_i n nd ps fj body ax;obtain⟨L,bb,b8⟩:=(hm.iV _ _ _ ax aA).MM;intro W iB;have Hc:W.heap[iT.b]?=some (.loop L):=iB.m _ bb;have fa:L.state=.ready:=b8.aI;have wA:∀ t∈ps,t<L.tmps.size:=λt au=>by rw[b8.sz];exact b8.op t (by rw[b8.ps];exact au)
  obtain⟨fI,aa,cQ,dk,abB⟩:=abA (tmps:=L.tmps) h hu wA b8.an;have Ab:L.params.size=ps.length:=by rw[<-b8.ps];simp
  refine⟨_,_,_,_,run_yield Hc (by rw[Ab];simpa using cQ),?_⟩;have ir:(L.params.zip us.toArray).foldl (λtmps (x:Nat×Value)=>match x with | (t,a)=>tmps.setIfInBounds t a) L.tmps=(ps.zip us).foldl (λ(tmps:Array Value) (p:Nat×Value)=>tmps.setIfInBounds p.1 p.2) L.tmps:=by rw[<-OF,<-b8.ps];simp
  rw[ir];generalize bl:(ps.zip us).foldl (λ(tmps:Array Value) (p:Nat×Value)=>tmps.setIfInBounds p.1 p.2) L.tmps=T at abB dk;rw[b8.fj,b8.body];have oh:ib n fj=true:=by rw[<-b8.fj];exact b8.B6
  have MD:ib n body=true:=by rw[<-b8.body];exact b8.nD
  refine roundIn_of_wpIn (F:=Fence.wide) (n:=0) trivial ?_;let wG:c1:=jX Y n W.heap.size W I (M.map (·.num)) (some iT.b)
  have GN:cL wG (λ_=>0) { tmps:=T,defers:=[] } W (λt=>.val (T.getD t undef)) (λ_=>none) I M:={
   size:=dk.trans b8.sz
   defers:=⟨[],rfl,DF,λr af=>by cases af⟩
   holds:=iB
   an:=λt=>rfl
   cr:=λs cs av=>by cases av
   inj:=λs cn aa=>by simp at aa
   ij:=λb o ag=>ag
   hU:=λb o ag=>.inl ag
   own:=λx ad=>.inl (c0.2 ⟨x,ad,rfl⟩)
   dK:=λb ag aB=>rfl
   out:=.refl _
   sz:=b2 _
   fy:=λx ad=>by
    obtain⟨y,aE,rfl⟩:=c0.1 ad;exact(k8.1 (iB.m y aE)).1 }
  unfold aak at aa;split at aa
  ·rename_i vJ m2 aod;have gj:lH wG Y.G Y.pr D m.n fI m { tmps:=T,defers:=[] } W:=⟨D,_,_,I,M,⟨_,GN⟩,λt v aj=>.val (abB t v aj),hm,bS.pe,b2 _⟩;refine wpIn_mono (ao _ _ _ _ _ _ _ _ aod oh _ _ _ _ _ D m.n _ _ (λe=>by cases e) gj) ?_;rintro e cN jx⟨rfl,SP,abC,abD,eE,dy,⟨abE,m3⟩,MN,D6,AO,lG⟩;have wM:SP l=some iT:=by rw[AO l (hm.jV _ _ aA)];exact aA
   have ab:RP (lE Y f) l n body (m2.t.get l) vJ m2=some (v,m'):=aa;unfold RP at ab;split at ab
   ·rename_i gA aoe aof aog RQ m6;obtain⟨jE,SQ,oi⟩:=(D6.iV _ _ _ m6 wM).MM;obtain⟨a9,post,de⟩:=vt SQ;have mF:dy.Perm (⟨iT.b,.loop jE⟩::(a9++post)):=by rw[de];exact na
    have abF:jx.heap[iT.b]?=some (.loop jE):=m3.holds.m _ SQ;have aoh:=(k8.1 abF).1;refine⟨_,run_beginRound abF oi.aI,?_⟩;obtain⟨t3,ai,aL⟩:=bm.o7 (some (fx.loop true gA aoe aof aog RQ)) m2.t l;rw[ai]at ab;have yV:cL wG abE cN (jx.putObj iT.b (.loop { jE with state:=.busy })) abC abD eE (⟨iT.b,.loop { jE with state:=.busy }⟩::(a9++post)):=
     (m3.h7 (.perm mF .refl)).swap (by simp) (DQ aoh) (λb ag=>nv ag) (Kz _ _ _)
    have pg:df Y SP ⟨t3,m2.n⟩ eE (⟨iT.b,.loop { jE with state:=.busy }⟩::(a9++post)):=D6.swap m6 wM mF aL (.loop { jE with state:=.busy } (by simp) ⟨rfl,oi.qC,oi.sz,oi.an,oi.ps,oi.fj,oi.body,oi.B6,oi.nD,oi.op⟩);unfold aaj at ab;obtain⟨⟨ex,axM,AQ⟩,H7,bq⟩:=cy ab;have zL:lH wG Y.G Y.pr D m.n vJ ⟨t3,m2.n⟩ cN (jx.putObj iT.b (.loop { jE with state:=.busy })):=⟨SP,abC,abD,eE,_,⟨abE,yV⟩,MN,pg,AO,lG⟩;refine wpIn_mono (ao _ _ _ _ _ _ _ _ H7 MD _ _ _ _ _ D m.n _ _ (λe=>by cases e) zL) ?_;rintro e hj j8⟨rfl,abG,aoi,aoj,qD,rI,⟨aok,sb⟩,axN,abH,abI,abJ⟩;have MO:abG l=some iT:=by rw[abI l (hm.jV _ _ aA)];exact aA
    have b':RO l (AQ.t.get l) (D2 ex) AQ=some (v,m'):=bq;unfold RO at b';split at b'
    ·rename_i abK abL abM abN abO El;obtain⟨SR,yW,AR⟩:=(abH.iV _ _ _ El MO).MM;obtain⟨abP,abQ,aol⟩:=vt yW;have abR:rI.Perm (⟨iT.b,.loop SR⟩::(abP++abQ)):=by rw[aol];exact na
     have abS:j8.heap[iT.b]?=some (.loop SR):=sb.holds.m _ yW;have aom:=(k8.1 abS).1;obtain⟨t5,dZ,eX⟩:=bm.o7 (some (bx (D2 ex) (fx.loop false abK abL abM abN abO) λc=>fx.done c abK abL abM abN abO)) AQ.t l;rw[dZ]at b';cases b';have fin:∀ jump,D2 ex=jump->∃ qZ w',(Instr.endRound iT.b jump).run Y.P j8=.ok qZ w'/\∃ r I' M',Ending.returned qZ=.returned r/\(∃ bG,D.ext bG m.n/\aW bG (.b (D2 ex).isNone) r/\df Y bG ⟨t5,AQ.n⟩ I' M')/\eN I' M' w'/\Kept I M W I' M' w':=by
      rintro jump ak;let MP:Loop:={ SR with state:=if jump.isNone then .ready else .done,pending:=jump }
      have MQ:cL wG aok hj (j8.putObj iT.b (.loop MP)) aoi aoj qD (⟨iT.b,.loop MP⟩::(abP++abQ)):=
       (sb.h7 (.perm abR .refl)).swap (by simp) (DQ aom) (λb ag=>nv ag) (Kz _ _ _)
      refine⟨_,_,run_endRound jump abS,_,qD,_,rfl,⟨abG,abI,?_,abH.swap El MO abR eX ?_⟩,MQ.holds,MQ.kept rfl rfl rfl rfl⟩;·rw[ak];simp[aW]
      ·rw[ak];cases jump with
       |none=>exact .loop MP (by simp) ⟨rfl,rfl,AR.sz,AR.an,AR.ps,AR.fj,AR.body,AR.B6,AR.nD,AR.op⟩| some c=>exact .done MP (by simp) rfl rfl
     cases ex with
     |normal=>exact fin none rfl| exit id=>exact fin _ rfl| goto t=>exact fin _ rfl| ret=>exact fin _ rfl
    ·cases b'
   ·cases ab
  ·cases aa
 ·cases h
end
section
variable{Y:gU}
def aon(aO:cX Y.P Y.E)(bs:xm Y.P)(l':yU Y)(ao:C1 Y f):IR Y (Mg Y (lE Y f)):=λanv l m v m' h D I M u us zs fK hm=>by
 unfold Mg at h;split at h
 ·rename_i g cO cs;simp only[aW]at zs;obtain⟨vs,ws,aa,ab,rfl⟩:=zs;refine .inl ⟨g,_,_,rfl,?_⟩;have:=abz aO bs l' ao h (aa.append (fK.append ab)) hm;simpa using this
 ·rename_i q;simp only[aW]at zs;obtain⟨iT,aa,rfl⟩:=zs;exact .inr ⟨iT.b,rfl,aoc ao h aa fK hm⟩
 ·cases h
def lH.world{an:bm ap}{m:bz}{a:Act}(h:lH X G pr D0 n0 an m a w):∃ D F β,(∀ t,e5 β (F t) (a.tmps.getD t undef))/\qX D F an:=by obtain⟨D,F,C,I,M,⟨β,aX⟩,bs,_⟩:=h;exact⟨D,F,β,aX.an,bs⟩
def lH.eval{an:bm ap}{m:bz}{a:Act}(h:lH X G pr D0 n0 an m a w)(ad:dv an x=some (.b b)):a.eval x=.bool b:=by obtain⟨D,F,β,aa,ab⟩:=h.world;obtain⟨u,aK,a'⟩:=(ab.op [x]).bH (x:=x) (by simp) ad;rw[dh aa aK,a'.bool]
def gB.ok{x:dH}{v:ap}(h:gB D x v)(ad:e5 β x u):aW D v u:=by
 rcases h with⟨y,rfl,h⟩ | ⟨q,rfl,rfl⟩
 ·have:u=y:=ad;subst this;exact h
 ·have:u=.bool q:=ad;subst this;simp[aW]
def aoo(aO:cX Y.P Y.E)(bs:xm Y.P)(l':yU Y)(ao:C1 Y f){gF:Bool}{ps:Array Tmp}{an dd:bm ap}{m m':bz}(h:RT Y (lE Y f) gF n (dv an x) ps.toList fj body an m=some (ex,dd,m'))(bi:ib n (.rangeFunc x ps fj body)=true){B:Nat}{aw:World}{foot:List Nat}{ro:Option Nat}{a:Act}(jd:gF=true->ro=none)(av:lH (jX Y n B aw dS foot ro) Y.G Y.pr D0 n0 an m a w) :
  (Code.rangeFunc x ps fj body).wpIn (g8 (jX Y n B aw dS foot ro)) 0 Y.P (λe a w=>e=AP ex/\lH (jX Y n B aw dS foot ro) Y.G Y.pr D0 n0 dd m' a w) a w:=by
 unfold RT at h;split at h
 ·rename_i g cap ad;have Pj:=jd rfl;subst Pj;obtain⟨D,F,C,I,M,⟨β,aX⟩,SS,hm,fQ,qG⟩:=av;obtain⟨u,aK,a'⟩:=(SS.op [x]).bH (x:=x) (by simp) ad;simp only[aW]at a';obtain⟨vs,ws,aa,ab,rfl⟩:=a';have iK:=aa.nU;subst iK;simp only[ib,cw]at bi;obtain⟨t1,ai,aL⟩:=IM h;refine wpIn_rangeFunc λfn _=>?_;let gm:Loop:={ state:=.ready,pending:=none,fn:=fn,tmps:=a.tmps,params:=ps,assign:=fj,body:=body,defers:=w.heap.size }
  let l:=w.heap.size+1
  let mY:World:=(w.alloc (.deferred (some []))).alloc (.loop gm)
  have BR:=aX.WH.n2 (.loop gm);have aA:(w.alloc (.deferred (some []))).heap.size=l:=by simp[l]
  rw[aA]at BR;have aop:∀ q∈M,q.num≠l:=λq aM e=>by have:=aX.holds.lt aM;omega
  have abT:df Y (D.set m.n ⟨l,0,0⟩) ⟨t1,m.n+1⟩ I (⟨l,.loop gm⟩::M):=hm.new (a:=⟨l,0,0⟩) ai aop (.loop gm (by simp) ⟨rfl,rfl,aX.size,λt v au=>((SS t v au).ok (aX.an t)).mono (bS.Az _ hm.fresh),rfl,rfl,rfl,bi.1,bi.2.1,λt au=>bK (fV.1 bi.2.2 t au)⟩);unfold aan at aL;obtain⟨⟨v,m2⟩,mZ,bq⟩:=cy aL;have abU:=bS.Az (D:=D) ⟨l,0,0⟩ hm.fresh;have nb:bO (D.set m.n ⟨l,0,0⟩) (.y m.n::cap) (.func (.yield l) #[] #[]::ws):=.cons (by simp only[aW];exact⟨_,bS.p8 _ _ _,rfl⟩) (ab.mono abU);obtain⟨qq,BE⟩:=aby aO bs l' ao mZ nb abT;have aoq:=BE mY BR.holds;have a7:=dh aX.an aK;refine⟨l,[xR w.heap.size],mY,{ target:=.fn (.func g) ws.toArray,args:=#[.func (.yield l) #[] #[]] },mY,g,(.func (.yield l) #[] #[]::ws).toArray,mY,?_,?_,λ_ _=>trivial,?_,(λh=>by cases h),?_⟩;·show(Instr.enterLoop fn a.tmps ps fj body none).run Y.P w=_;exact run_enterLoop_outer fn a.tmps ps fj body
  ·show(Deferred.ofValue (a.eval x) (#[Operand.const (.func (.yield l) #[] #[])].map a.eval)).run Y.P mY=_;rw[a7];simp[Deferred.ofValue,Act.eval]
  ·simp only[invoke];rw[show #[Value.func (.yield l) #[] #[]]++ws.toArray=(.func (.yield l) #[] #[]::ws).toArray from by apply gX;simp];exact qq _ _
  ·refine(OR (X:=jX Y n B aw dS foot none) aoq _).mono ?_;rintro e oN⟨r,ls,oM,rfl,⟨I3,SU,HP,pg⟩,abV,I4⟩;have sI:=BR.after (Mr:=[]) (by simp) abV I4;rw[dD]at sI;have u1:I3 m.n=some ⟨l,0,0⟩:=by rw[SU m.n (Bo _)];exact bS.p8 _ _ _
   have MR:=abT.le SU;have aor:qX I3 F an:=λt v au=>(SS t v au).mono (bS.le_trans abU MR);have aos:D0.ext I3 n0:=λi hi=>by
    have fv:i<m.n+1:=by
     have:i<m.n:=by omega
     omega
    rw[SU i fv];show(if i=m.n then _ else D i)=D0 i;rw[bP (by omega)];exact fQ i hi
   have fin:∀ (L:Loop) (t4:bm fx) (j:Option Code),(⟨l,.loop L⟩:aF)∈oM->L.state≠.busy->L.pending=j->(∃ di,m2.t.get m.n=some di)->(∀ id e,t4.get id=some e->(id=m.n/\(none:Option fx)=some e)\/(id≠m.n/\m2.t.get id=some e))->n0<=m2.n ->
     ∃ j8,(Instr.endLoop l).run Y.P oN=.ok j j8/\lH (jX Y n B aw dS foot none) Y.G Y.pr D0 n0 an ⟨t4,m2.n⟩ { a with defers:=[xR w.heap.size]++a.defers } j8:=by
    rintro L t4 j b8 ag aH⟨di,aot⟩Qr abJ;have aou:oN.heap[l]?=some (.loop L):=abV.m _ b8;obtain⟨a9,post,de⟩:=vt b8;have mF:oM.Perm (⟨l,.loop L⟩::(a9++post)):=by rw[de];exact na
    have j9:∀ i e8,t4.get i=some e8->i≠m.n/\m2.t.get i=some e8:=λi e8 hi=>by
     rcases Qr i e8 hi with⟨_,eX⟩ | eX;·cases eX
     ·exact eX
    have sb:=(sI.h7 (.perm mF .refl)).G' (o':=.loop { L with state:=.exhausted });refine⟨_,(by rw[<-aH];exact run_endLoop aou ag),I3,F,C,ls,a9++post,⟨β,sb⟩,aor,⟨λi e8 b hi hk=>?_,λi gV e8 AJ b jb hi cG=>pg.inj i gV e8 AJ b jb (j9 i e8 hi).2 (j9 gV AJ cG).2,pg.jV,pg.qW⟩,aos,abJ⟩;refine(pg.iV i e8 b (j9 i e8 hi).2 hk).mono (bS.le_refl I3) λq aM aD=>?_;rcases eA.1 (mF.mem_iff.1 aM)with rfl | aM;·exact((j9 i e8 hi).1 (pg.inj _ _ _ _ _ _ (j9 i e8 hi).2 aot hk u1 aD.symm)).elim
    ·exact aM
   have lG:∀ {di:fx},m2.t.get m.n=some di->n0<=m2.n:=λ_=>by have:=pg.jV _ _ u1;omega
   have b':(match m2.t.get m.n with
    |some (.loop false ..)=>m2.t.nT none m.n λt=>some (tv.normal,an,(⟨t,m2.n⟩:bz))
    |some (.done c ..)=>bx (RS c) none λex=>m2.t.nT none m.n λt=>some (ex,an,⟨t,m2.n⟩)
    |_=>none)=some (ex,dd,m'):=bq
   split at b';·rename_i Ys aov aow aox aoy sM;obtain⟨L,b8,abW⟩:=(pg.iV _ _ _ sM u1).MM;obtain⟨t4,dZ,eX⟩:=bm.o7 (none:Option fx) m2.t m.n;rw[dZ]at b';cases b';obtain⟨j8,dT,pL⟩:=fin L t4 none b8 (by rw[abW.aI];simp) abW.qC ⟨_,sM⟩ eX (lG sM);exact⟨none,j8,dT,rfl,pL⟩
   ·rename_i c Ys aov aow aox aoy sM;obtain⟨L,b8,fa,SV⟩:=(pg.iV _ _ _ sM u1).aob;obtain⟨CS,hex,b'⟩:=cy b';obtain⟨t4,dZ,eX⟩:=bm.o7 (none:Option fx) m2.t m.n;rw[dZ]at b';cases b';obtain⟨j8,dT,pL⟩:=fin L t4 (some c) b8 (by rw[fa];simp) SV ⟨_,sM⟩ eX (lG sM);refine⟨some c,j8,dT,?_⟩;unfold RS at hex;split at hex
    ·cases hex;exact wpIn_exit ⟨rfl,pL⟩
    ·cases hex;exact wpIn_goto ⟨rfl,pL⟩
    ·cases hex;exact wpIn_ret ⟨rfl,pL⟩
    ·cases hex
   ·cases b'
 ·cases h
end
section
variable{Y:gU}
def abX{next:Act->World->Prop}{a:Act}(h:Q (AP ex) a w)(bD:ex≠.normal):Exit.then next Q (AP ex) a w:=by cases ex<;>first | exact(bD rfl).elim | exact h
def aoz(aO:cX Y.P Y.E)(bs:xm Y.P)(l':yU Y)(iA:Y.P.follows .mixedOrders=true):∀ f k,k<=f->C1 Y k:=by
 intro f
 induction f with
 |zero=>
  intro k ae gF n c an m ex dd m' h;have:k=0:=by omega
  subst this;cases h
 |succ f aN=>
  intro k ae;by_cases H2:k<=f;·exact aN k H2
  have tP:k=f+1:=by omega
  subst tP;have ao:=aN f (b2 _);have mZ:=aon aO bs l' ao;intro gF n c an m ex dd m' h bi B aw dS foot ro D0 n0 a w jd av;have aa:RU Y f (lE Y f) gF n c an m=some (ex,dd,m'):=h;have ko:=@jX.gJ Y n B aw dS foot ro;unfold RU at aa;cases c with
  |skip=>cases aa;exact wpIn_skip ⟨rfl,av⟩| label l=>cases aa;exact wpIn_label ⟨rfl,av⟩| ret=>cases aa;exact wpIn_ret ⟨rfl,av⟩| exit id=>cases aa;exact wpIn_exit ⟨rfl,av⟩| goto l=>cases aa;exact wpIn_goto ⟨rfl,av⟩| refuse s=>cases aa
  |seq x y=>
   simp only[ib,cw]at bi;simp only[Ix]at aa;split at aa;·rename_i fI cM ad;refine wpIn_seq (wpIn_mono (ao _ _ _ _ _ _ _ _ ad bi.1 B aw dS foot ro D0 n0 a w jd av) ?_);rintro e cN jx⟨rfl,gj⟩;exact ao _ _ _ _ _ _ _ _ aa bi.2 B aw dS foot ro D0 n0 cN jx jd gj
   ·rename_i eD;refine wpIn_seq (wpIn_mono (ao _ _ _ _ _ _ _ _ aa bi.1 B aw dS foot ro D0 n0 a w jd av) ?_);rintro e cN jx⟨rfl,gj⟩;exact abX ⟨rfl,gj⟩ λe=>eD dd m' (by rw[aa,e])
  |block id c=>
   simp only[ib]at bi;simp only[aal]at aa;split at aa
   ·rename_i j fI cM ad;refine wpIn_block (wpIn_mono (ao _ _ _ _ _ _ _ _ ad bi B aw dS foot ro D0 n0 a w jd av) ?_);rintro e cN jx⟨rfl,gj⟩;simp only[AP,Exit.inBlock];by_cases ak:j=id
    ·subst ak;rw[rj]at aa;have ab:some (tv.normal,fI,cM)=some (ex,dd,m'):=aa;cases ab;rw[bT rfl];exact⟨rfl,gj⟩
    ·rw[hF ak]at aa;have ab:some (tv.exit j,fI,cM)=some (ex,dd,m'):=aa;cases ab;rw[bP ak];exact⟨rfl,gj⟩
   ·rename_i eD;refine wpIn_block (wpIn_mono (ao _ _ _ _ _ _ _ _ aa bi B aw dS foot ro D0 n0 a w jd av) ?_);rintro e cN jx⟨rfl,gj⟩;cases ex with
    |exit j=>exact(eD j dd m' aa).elim| normal=>exact⟨rfl,gj⟩| goto l=>exact⟨rfl,gj⟩| ret=>exact⟨rfl,gj⟩
  |cond x fF fB=>
   simp only[ib,cw]at bi;simp only[aam]at aa;split at aa
   ·rename_i b ad;refine wpIn_cond (av.eval ad) ?_;cases b with
    |true=>exact ao _ _ _ _ _ _ _ _ aa bi.1 B aw dS foot ro D0 n0 a w jd av| false=>exact ao _ _ _ _ _ _ _ _ aa bi.2 B aw dS foot ro D0 n0 a w jd av
   ·cases aa
  |loop c=>
   simp only[ib]at bi;let J (k:Nat) (a:Act) (w:World):Prop:=k<=f+1/\∃ fI cM,lE Y k gF n (.loop c) fI cM=some (ex,dd,m')/\lH (jX Y n B aw dS foot ro) Y.G Y.pr D0 n0 fI cM a w
   refine KI J (m:=f+1) ⟨b2 _,an,m,h,av⟩ ?_;rintro k cN jx⟨ae,fI,cM,ab,gj⟩;cases k with
   |zero=>cases ab
   |succ k=>
    have I5:=aN k (by omega);have ai:Ix (lE Y k gF n c fI cM) (lE Y k gF n (.loop c))=some (ex,dd,m'):=ab;simp only[Ix]at ai;split at ai;·rename_i vJ m2 ad;refine wpIn_mono (I5 _ _ _ _ _ _ _ _ ad bi B aw dS foot ro D0 n0 cN jx jd gj) ?_;rintro e ej mY⟨rfl,oG⟩;exact⟨k,Bo k,by omega,vJ,m2,ai,oG⟩
    ·rename_i eD;refine wpIn_mono (I5 _ _ _ _ _ _ _ _ ai bi B aw dS foot ro D0 n0 cN jx jd gj) ?_;rintro e ej mY⟨rfl,oG⟩;exact abX ⟨rfl,oG⟩ λe=>eD dd m' (by rw[ai,e])
  |region id ops aoA=>
   cases aoA with
   |false=>simp only[Mh]at aa;obtain⟨⟨fI,cM⟩,ad,ab⟩:=cy aa;cases ab;refine wpIn_region ?_;have:=Su (X:=jX Y n B aw dS foot ro) (G:=Y.G) (pr:=Y.pr) (D0:=D0) (n0:=n0) aO ko mZ ops (λe a w=>e=AP .normal/\lH (jX Y n B aw dS foot ro) Y.G Y.pr D0 n0 fI cM a w) (λa w h=>⟨rfl,h⟩) ops.toList 0 (by simp) (KH bi) ad av;have dT:wpOpsIn (g8 (jX Y n B aw dS foot ro)) 0 Y.P ops (λe a w=>e=AP .normal/\lH (jX Y n B aw dS foot ro) Y.G Y.pr D0 n0 fI cM a w) (List.range' 0 ops.toList.length) a w:=this;rw[DE];simpa using dT
   |true=>simp only[Mh]at aa;obtain⟨⟨fI,cM⟩,ad,ab⟩:=cy aa;cases ab;exact anI (X:=jX Y n B aw dS foot ro) (G:=Y.G) (pr:=Y.pr) (D0:=D0) (n0:=n0) aO ko mZ iA bi ad (λa w h=>⟨rfl,h⟩) av
  |scope c=>
   simp only[ib]at bi;have step:∀ (k:Nat) (x:Code) (fI:bm ap) (cM:bz) (cN:Act) (jx:World),ib n x=true->Iy (lE Y f) gF n c (k+1) x fI cM=some (ex,dd,m')->lH (jX Y n B aw dS foot ro) Y.G Y.pr D0 n0 fI cM cN jx ->
     x.wpIn (g8 (jX Y n B aw dS foot ro)) 0 Y.P (λe bN w'=>match e with
      | .goto l=>∃ bo vJ m2,findLabel c l=some bo/\Iy (lE Y f) gF n c k bo vJ m2=some (ex,dd,m')/\lH (jX Y n B aw dS foot ro) Y.G Y.pr D0 n0 vJ m2 bN w'| e=>e=AP ex/\lH (jX Y n B aw dS foot ro) Y.G Y.pr D0 n0 dd m' bN w') cN jx:=λk x fI cM cN jx ad ab gj=>by
    have ai:(match lE Y f gF n x fI cM with
     |some (.goto l,an,m)=>bx (findLabel c l) none λbo=>Iy (lE Y f) gF n c k bo an m
     |r=>r)=some (ex,dd,m'):=ab
    split at ai;·rename_i l vJ m2 he;obtain⟨bo,rH,aL⟩:=cy ai;refine wpIn_mono (ao _ _ _ _ _ _ _ _ he ad B aw dS foot ro D0 n0 cN jx jd gj) ?_;rintro e ej mY⟨rfl,oG⟩;exact⟨bo,vJ,m2,rH,aL,oG⟩
    ·rename_i eD;refine wpIn_mono (ao _ _ _ _ _ _ _ _ ai ad B aw dS foot ro D0 n0 cN jx jd gj) ?_;rintro e ej mY⟨rfl,oG⟩;cases ex with
     |goto l=>exact(eD l dd m' ai).elim| exit j=>exact⟨rfl,oG⟩| normal=>exact⟨rfl,oG⟩| ret=>exact⟨rfl,oG⟩
   let J (l k:Nat) (a:Act) (w:World):Prop:=∃ bo fI cM,findLabel c l=some bo/\Iy (lE Y f) gF n c k bo fI cM=some (ex,dd,m')/\lH (jX Y n B aw dS foot ro) Y.G Y.pr D0 n0 fI cM a w
   cases f with
   |zero=>cases aa
   |succ tO=>
    refine WB J (wpIn_mono (step tO c an m a w bi aa av) ?_) ?_
    ·intro e cN jx he;cases e with
     |goto l=>exact⟨tO,he⟩| _=>exact he
    ·rintro l k cN jx⟨bo,fI,cM,rH,ab,gj⟩;cases k with
     |zero=>cases ab
     |succ k=>
      refine⟨bo,rH,wpIn_mono (step k bo fI cM cN jx (SM bi rH) ab gj) ?_⟩;intro e ej mY he;cases e with
      |goto dC=>exact⟨k,Bo k,he⟩| _=>exact he
  |rangeFunc x ps fj body=>exact aoo aO bs l' ao aa bi jd av
def reckon(aO:cX Y.P Y.E)(bs:xm Y.P)(l':yU Y)(iA:Y.P.follows .mixedOrders=true){m m':bz}{v:ap}(h:yL Y (lE Y f) g args m=some (v,m'))(hu:bO D args us)(hm:df Y D m I M) : Spec Y.P g us I M λr I' M'=>∃ bG,D.ext bG m.n/\aW bG v r/\df Y bG m' I' M':=
 abz aO bs l' (aoz aO bs l' iA f f (b2 _)) h hu hm
end
def abY(h:eN I M w)(aa:eN I' M' w')(ab:Kept I [] w I' M' w') :
  eN I' (M'++M) w'/\Kept I M w I' (M'++M) w'/\∀ x∈M',∀ y∈M,x.num≠y.num:=by
 have a4:∀ x∈M,x.num<w.heap.size:=λx ad=>(k8.1 (h.m x ad)).1;have c8:∀ x∈M',w.heap.size<=x.num:=λx ad=>by
  rcases ab.wg x ad with⟨y,aE,_⟩ | h;·cases aE
  ·exact h
 have bD:∀ x∈M',∀ y∈M,x.num≠y.num:=λx ad y aE e=>by have:=a4 y aE;have:=c8 x ad;omega
 refine⟨⟨aa.i,λx ad=>?_,λx ad=>?_,?_⟩,⟨ab.le,ab.uM,λx ad=>?_,λb ag _=>ab.dK b ag (by simp),ab.out,ab.sz⟩,bD⟩
 ·rcases cC.1 ad with ad | ad
  ·exact aa.m x ad
  ·rw[ab.dK x.num (a4 x ad) (by simp)];exact h.m x ad
 ·rcases cC.1 ad with ad | ad
  ·exact aa.d x ad
  ·cases he:I' x.num with
   |none=>rfl
   |some o=>
    rcases ab.uM _ _ he with ai | ai;·rw[h.d x ad]at ai;cases ai
    ·have:=a4 x ad;omega
 ·rw[cS,uG];refine⟨aa.bX,h.bX,λa a6 b ag e=>?_⟩;obtain⟨x,ad,rfl⟩:=c0.1 a6;obtain⟨y,aE,rfl⟩:=c0.1 ag;exact bD x ad y aE e
 ·rcases cC.1 ad with ad | ad
  ·exact .inr (c8 x ad)
  ·exact .inl ⟨x,ad,rfl⟩
def Spec.frame{args:List Value}{Q:Value->aJ->List aF->Prop}(h:Spec P f args I [] Q):Spec P f args I M λr I' kQ=>∃ M',kQ=M'++M/\(∀ x∈M',∀ y∈M,x.num≠y.num)/\(∀ b o,I b=some o->I' b=some o)/\Q r I' M':=by
 have aw:∀ {w:World},eN I M w->eN I [] w:=λhw=>⟨hw.i,by simp,by simp,by simp⟩;rcases h with⟨aa,ab⟩ | h
 ·refine .inl ⟨aa,λw hw=>?_⟩;refine(ab w (aw hw)).mono ?_;rintro e w'⟨v,I',M',aK,a7,ck,dM⟩;obtain⟨a',bg,b5⟩:=abY hw ck dM;exact⟨v,I',M'++M,aK,⟨M',rfl,b5,dM.le,a7⟩,a',bg⟩
 ·refine .inr λw hw=>?_;obtain⟨v,w',I',M',aK,a7,ck,dM⟩:=h w (aw hw);obtain⟨a',bg,b5⟩:=abY hw ck dM;exact⟨v,w',I',M'++M,aK,⟨M',rfl,b5,dM.le,a7⟩,a',bg⟩
mutual
def jY(k:Nat):ap->ap
 | .p id off=>.p (Nat.add id k) off| .sl id off n c=>.sl (Nat.add id k) off n c| .sx id off e n=>.sx (Nat.add id k) off e n| .m id=>.m (Nat.add id k)| .y id=>.y (Nat.add id k)| .f g l r=>.f g (q1 k l) (q1 k r)| .Ij t v=>.Ij t (jY k v)| .t l=>.t (q1 k l)| .a l=>.a (q1 k l)| .b x=>.b x| .i a n=>.i a n| .s l=>.s l| .pn=>.pn| .g n off=>.g n off| .sn=>.sn| .gs n off a c=>.gs n off a c| .so=>.so| .mn=>.mn| .fn=>.fn| .ni=>.ni
def q1(k:Nat):List ap->List ap
 |[]=>[]| v::l=>jY k v::q1 k l
end
section
mutual
def Ft{D0 D:bS}{k:Nat}(dw:∀ id a,D0 id=some a->D (Nat.add id k)=some a):∀ (v:ap) {u:Value},aW D0 v u->aW D (jY k v) u
 | .p id off,u,h=>by simp only[aW,jY]at h |-;obtain⟨a,a6,h⟩:=h;exact⟨a,dw _ _ a6,h⟩
 | .sl id off n c,u,h=>by simp only[aW,jY]at h |-;obtain⟨a,a6,h⟩:=h;exact⟨a,dw _ _ a6,h⟩
 | .sx id off e n,u,h=>by simp only[aW,jY]at h |-;obtain⟨a,a6,h⟩:=h;exact⟨a,dw _ _ a6,h⟩
 | .m id,u,h=>by simp only[aW,jY]at h |-;obtain⟨a,a6,h⟩:=h;exact⟨a,dw _ _ a6,h⟩
 | .y id,u,h=>by simp only[aW,jY]at h |-;obtain⟨a,a6,h⟩:=h;exact⟨a,dw _ _ a6,h⟩
 | .f g l r,u,h=>by simp only[aW,jY]at h |-;obtain⟨vs,ws,aa,ab,h⟩:=h;exact⟨vs,ws,I6 dw l aa,I6 dw r ab,h⟩
 | .Ij t v,u,h=>by simp only[aW,jY]at h |-;obtain⟨x,aa,h⟩:=h;exact⟨x,Ft dw v aa,h⟩
 | .t l,u,h=>by simp only[aW,jY]at h |-;obtain⟨x,aa,h⟩:=h;exact⟨x,I6 dw l aa,h⟩
 | .a l,u,h=>by simp only[aW,jY]at h |-;obtain⟨x,aa,h⟩:=h;exact⟨x,I6 dw l aa,h⟩
 | .b x,u,h=>by simpa only[aW,jY]using h
 | .i a n,u,h=>by simpa only[aW,jY]using h
 | .s l,u,h=>by simpa only[aW,jY]using h
 | .pn,u,h=>by simpa only[aW,jY]using h
 | .g n off,u,h=>by simpa only[aW,jY]using h
 | .sn,u,h=>by simpa only[aW,jY]using h
 | .gs n off a c,u,h=>by simpa only[aW,jY]using h
 | .so,u,h=>by simpa only[aW,jY]using h
 | .mn,u,h=>by simpa only[aW,jY]using h
 | .fn,u,h=>by simpa only[aW,jY]using h
 | .ni,u,h=>by simpa only[aW,jY]using h
def I6{D0 D:bS}{k:Nat}(dw:∀ id a,D0 id=some a->D (Nat.add id k)=some a):∀ (l:List ap) {us:List Value},bO D0 l us->bO D (q1 k l) us
 |[],us,h=>by simpa only[bO,q1]using h
 |v::l,us,h=>by simp only[bO,q1]at h |-;obtain⟨x,xs,aa,ab,h⟩:=h;exact⟨x,xs,Ft dw v aa,I6 dw l ab,h⟩
end
end
inductive vK where
 |cells(l:List ap)(T:Nat)| map (es:List (ap×ap))
noncomputable def I7:fx->Option vK
 | .cells cs T fN=>cs.ER 0 fN λl=>some (.cells l T)
 | .map es=>some (.map es)| _=>none
noncomputable def readAll(t:bm fx):Nat->Nat->Option (List vK)
 |_,0=>some []| id,n+1=>bx (t.get id) none λe=>bx (I7 e) none λs=>bx (readAll t (Nat.add id 1) n) none λl=>some (s::l)
def SW(k:Nat):List (ap×ap)->List (ap×ap)
 |[]=>[]| p::l=>(jY k p.1,jY k p.2)::SW k l
noncomputable def vK.iV(k:Nat):vK->fx
 | .cells l T=>bm.yF (q1 k l) .nil 0 λcs=>.cells cs T l.length
 | .map es=>.map (SW k es)
noncomputable def MS{R:Type}(k:Nat):List vK->Nat->bm fx->(bm fx->R)->R
 |[],_,t,K=>K t| s::l,id,t,K=>t.nT (some (s.iV k)) id λt=>MS k l (Nat.add id 1) t K
noncomputable def SX(v:ap)(L:List vK)(m:bz):Option (ap×bz):=r5 m.n λn=>r5 (Nat.add n L.length) λgA=>MS n L n m.t λt=>some (jY n v,⟨t,gA⟩)
def abZ{t:bm fx}:∀ {n id:Nat} {L:List vK},readAll t id n=some L->L.length=n/\∀ j s,L[j]?=some s->∃ e,t.get (id+j)=some e/\I7 e=some s
 |0,id,L,h=>by cases h;exact⟨rfl,by simp⟩
 |n+1,id,L,h=>by
  unfold readAll at h;obtain⟨e,aa,h⟩:=cy h;obtain⟨s,ab,h⟩:=cy h;obtain⟨l,ai,h⟩:=cy h;cases h;obtain⟨a',bg⟩:=abZ ai;refine⟨by simp[a'],λj cn ak=>?_⟩;cases j with
  |zero=>cases ak;exact⟨e,aa,ab⟩| succ j=>obtain⟨cU,eK,cR⟩:=bg j cn (by simpa using ak);refine⟨cU,?_,cR⟩;rw[<-eK];congr 1;show id+(j+1)=id+1+j;omega
def ab0(k:Nat):∀ (L:List vK) (id:Nat) (t:bm fx),∃ bf:bm fx,(∀ {R:Type} (K:bm fx->R),MS k L id t K=K bf) /\ ∀ j e,bf.get j=some e->(id<=j/\∃ s,L[j-id]?=some s/\e=s.iV k)\/((j<id\/id+L.length<=j)/\t.get j=some e)
 |[],id,t=>⟨t,λK=>rfl,λj e h=>.inr ⟨by simp;omega,h⟩⟩
 |s::L,id,t=>by
  obtain⟨t1,aa,ab⟩:=bm.o7 (some (s.iV k)) t id;obtain⟨bf,ai,aL⟩:=ab0 k L (id+1) t1;refine⟨bf,λK=>?_,λj e h=>?_⟩;·unfold MS;rw[aa];exact ai K
  ·rcases aL j e h with⟨a',cn,bg,b5⟩ | ⟨a',bg⟩
   ·refine .inl ⟨by omega,cn,?_,b5⟩;rw[show j-id=(j-(id+1))+1 by omega];simpa using bg
   ·rcases ab j e bg with⟨rfl,b5⟩ | ⟨b5,gf⟩
    ·refine .inl ⟨b2 _,s,by simp,?_⟩;cases b5;rfl
    ·refine .inr ⟨?_,gf⟩;simp only[eo];omega
def aoB{k:Nat}(dw:∀ id a,D0 id=some a->D (Nat.add id k)=some a){es:List (ap×ap)}{l:List MapEntry}(h:qY D0 es l):qY D (SW k es) l:=by
 induction h with
 |nil=>exact .nil| cons ae aj t aN=>exact .cons (Ft dw _ ae) (Ft dw _ aj) aN
def ab1{k:Nat}:∀ {l:List ap} {i:Nat} {v:ap},(q1 k l)[i]?=some v->∃ xn,l[i]?=some xn/\v=jY k xn
 |[],i,v,h=>by simp[q1]at h
 |x::l,0,v,h=>by simp only[q1,List.getElem?_cons_zero,kJ]at h;exact⟨x,rfl,h.symm⟩
 |x::l,i+1,v,h=>by simp only[q1,Gt]at h;simpa using ab1 h
def aoC{k:Nat}(dw:∀ id a,D0 id=some a->D (Nat.add id k)=some a)(bb:∀ x∈M,x∈M'){a:Loc}{e:fx}{s:vK}(h:lF D0 E M a e)(af:I7 e=some s):lF D E M' a (s.iV k):=by
 cases h with
 | @cells cs T fN arr aw aa ab ai aL bq=>
  unfold I7 at af;obtain⟨l,a',bg,b5⟩:=bm.E5 cs fN 0 _ _ af;cases b5;obtain⟨bf,eK,cR⟩:=bm.yM (q1 k l) (.nil:bm ap) 0;show lF D E M' a (bm.yF (q1 k l) .nil 0 λcs=>fx.cells cs T l.length);rw[eK,a'];refine .cells arr aw (bb _ aa) ab (λi v hi ax=>?_) aL bq;rcases cR i v ax with⟨_,h⟩ | ⟨_,h⟩;·obtain⟨xn,aK,rfl⟩:=ab1 (by simpa using h);have:=bg i hi;rw[dp,aK]at this;obtain⟨x,f1,f2⟩:=ai i xn hi this;exact⟨x,f1,Ft dw _ f2⟩
  ·cases h
 |map l clock aa ab=>cases af;exact .map l clock (bb _ aa) (aoB dw ab)| loop L aa ab=>cases af| done L aa ab ai=>cases af
def aoD(aO:cX Y.P Y.E)(bs:xm Y.P)(iA:Y.P.follows .mixedOrders=true){jT:bz}{xn:ap}{L:List vK}(aw:yL ⟨Y.P,Y.E,λ_=>none,λ_ _ _=>none⟩ (lE ⟨Y.P,Y.E,λ_=>none,λ_ _ _=>none⟩ f) g args ⟨.nil,0⟩=some (xn,jT))(b8:readAll jT.t 0 jT.n=some L)(dm:∀ D us,bO D args us->bO (λ_=>none) args us){m m':bz}{v:ap}(h:SX xn L m=some (v,m'))(hu:bO D args us)(hm:df Y D m I M) :
  Spec Y.P g us I M λr I' M'=>∃ bG,D.ext bG m.n/\aW bG v r/\df Y bG m' I' M':=by
 have l':yU ⟨Y.P,Y.E,λ_=>none,λ_ _ _=>none⟩:=λg vs m v m' h=>by cases h
 have q2:df ⟨Y.P,Y.E,λ_=>none,λ_ _ _=>none⟩ (λ_=>none) ⟨.nil,0⟩ I []:=⟨λid e a h bj=>(by cases bj),λid iW e cU a bN h aa bj=>(by cases bj),λid a h=>(by cases h),λg cs h=>(by cases h)⟩;have av:=(reckon (Y:=⟨Y.P,Y.E,λ_=>none,λ_ _ _=>none⟩) aO bs l' iA aw (dm D us hu) q2).frame (M:=M);refine Spec.mH av ?_;rintro r I' kQ⟨M0,rfl,bD,bk,D0,-,aj,Fu⟩;unfold SX at h;rw[RW,RW]at h;obtain⟨bf,aa,ab⟩:=ab0 m.n L m.n m.t;rw[aa]at h;cases h;obtain⟨a',bg⟩:=abZ b8;let bG:bS:=λid=>if id<m.n then D id else D0 (id-m.n)
 have dw:∀ id a,D0 id=some a->bG (Nat.add id m.n)=some a:=λid a a6=>by show(if id+m.n<m.n then D (id+m.n)else D0 (id+m.n-m.n))=some a;rw[bP (by omega),Nat.add_sub_cancel,a6]
 have gl:D.le bG:=λid a a6=>by show(if id<m.n then D id else D0 (id-m.n))=some a;rw[bT (hm.jV _ _ a6),a6]
 have lo:∀ id,id<m.n->bG id=D id:=λid hi=>bT hi;have cG:∀ id,m.n<=id->bG id=D0 (id-m.n):=λid hi=>bP (by omega);have src:∀ id e a,bf.get id=some e->bG id=some a->(m.n<=id/\∃ s di,e=s.iV m.n/\jT.t.get (id-m.n)=some di/\I7 di=some s/\D0 (id-m.n)=some a)\/(id<m.n/\m.t.get id=some e/\D id=some a):=λid e a he a6=>by
  rcases ab id e he with⟨eK,s,cR,g'⟩ | ⟨eK,cR⟩;·obtain⟨di,my,I8⟩:=bg _ _ cR;rw[dp]at my;rw[cG _ eK]at a6;exact .inl ⟨eK,s,di,g',my,I8,a6⟩
  ·rcases Nat.lt_or_ge id m.n with a4 | c8
   ·rw[lo _ a4]at a6;exact .inr ⟨a4,cR,a6⟩
   ·rw[cG _ c8]at a6;have:=Fu.jV _ _ a6;omega
 refine⟨bG,λid hi=>lo id hi,Ft dw _ aj,⟨λid e a he a6=>?_,λid iW e cU a bN he rA a6 s3 ag=>?_,λid a a6=>?_,hm.qW.mono bk⟩⟩
 ·rcases src id e a he a6 with⟨eK,s,di,rfl,cR,g',my⟩ | ⟨eK,cR,g'⟩
  ·exact aoC dw (λx ad=>im _ ad) (Fu.iV _ _ _ cR my) g'
  ·exact(hm.iV _ _ _ cR g').mono gl λx ad _=>sF _ ad
 ·rcases src id e a he a6 with⟨eK,s,di,rfl,cR,g',my⟩ | ⟨eK,cR,g'⟩
  ·rcases src iW cU bN rA s3 with⟨AS,cn,aoE,rfl,xo,I9,SY⟩ | ⟨AS,xo,I9⟩
   ·have:=Fu.inj _ _ _ _ _ _ cR xo my SY ag;omega
   ·obtain⟨x,ad,q3⟩:=Fu.ar cR my;obtain⟨y,aE,SZ⟩:=hm.ar xo I9;exact(bD x ad y aE (q3.trans (ag.trans SZ.symm))).elim
  ·rcases src iW cU bN rA s3 with⟨AS,cn,aoE,rfl,xo,I9,SY⟩ | ⟨AS,xo,I9⟩
   ·obtain⟨x,ad,q3⟩:=Fu.ar xo SY;obtain⟨y,aE,SZ⟩:=hm.ar cR g';exact(bD x ad y aE (q3.trans (ag.symm.trans SZ.symm))).elim
   ·exact hm.inj _ _ _ _ _ _ cR xo g' I9 ag
 ·show id<m.n+L.length;rcases Nat.lt_or_ge id m.n with a4 | c8
  ·omega
  ·rw[cG _ c8]at a6;have:=Fu.jV _ _ a6;omega
open Go Go.Proofs
def aoF(k:Nat):liesAt Tryz.prog Tryz.prog.depth 320 ((k+1)*2/Tryz.prog.cellsOf 320) 0 320 1=true:=by
 have ab:Tryz.prog.cellsOf 320=2:=by kernel_rfl
 have ah:Tryz.prog.depth=(Tryz.prog.depth-1)+1:=by kernel_rfl
 have g6:sameLayout Tryz.prog Tryz.prog.depth 320 320=true:=by kernel_rfl
 have af:rowAt Tryz.prog (sameLayout Tryz.prog Tryz.prog.depth · 320) Tryz.prog.depth 320 (k+1) 0 1=true:=by
  generalize aB:(sameLayout Tryz.prog Tryz.prog.depth · 320)=f;have wF:f 320=true:=by rw[<-aB];exact g6
  rw[ah];unfold rowAt;simp only[ab,wF];simp
 rw[ab,Nat.mul_div_cancel _ (by decide:0<2)];rw[ah];unfold liesAt;rw[af];rfl
def aoG(a9 post:List aF)(b:Nat)(v:Value)(k:Nat)(bo:List Value)(af:bo.length=2*k) :
  Spec Tryz.prog 300 [ptr b] I (a9++⟨b,.cells (.pointer none::v::bo).toArray 320 (0,0)⟩::post) λr I' M'=>r=.tuple #[]/\I'=I/\M'=a9++⟨b,.cells (cq (.pointer none::v::bo) 0 [ptr b]).toArray 320 (0,0)⟩::post:=by
 obtain⟨inf,z,hi,fv,_⟩:=(a3 320 _ rfl).inf;refine b0 [] a3 Tryz.func300 rfl rfl rfl ?_;intro B aw;have hm:∀ {o:Obj},(⟨b,o⟩:aF)∈a9++⟨b,o⟩::post:=fun {o}=>cC.2 (.inr (.head _));have dk:(Value.pointer none::v::bo).toArray.size=(k+1)*2:=by simp[af];omega
 have aA:liesAt Tryz.prog Tryz.prog.depth 320 ((Value.pointer none::v::bo).toArray.size/Tryz.prog.cellsOf 320) 0 320 1=true:=by rw[dk];exact aoF k
 refine aV.mk [.pointer none] (dq (cs:=.pointer none::v::bo) (k:=0) (n:=1) (T:=320) hm (by simp)) ?_;refine .other (bF.Lb a3 rfl (by simp) rfl rfl rfl rfl ?_);refine a5.mk (λ_=>?_) (λh=>by cases h);refine bF.conv rfl (by simp) rfl (λw hw=>Lib.run_to_unsafe (t:=320) (e:=320) w ⟨b,0,none⟩ (by kernel_rfl) (by kernel_rfl) (j:=inf) (cells:=(Value.pointer none::v::bo).toArray.size) hi (by rw[fv];decide) (Ld hw hm) (by rw[dk];show 0<_;omega)) ?_;refine bc.mk (a9++⟨b,.cells (.pointer none::v::bo).toArray 320 (0,0)⟩::post) [] _ (by simp) (PO _) ?_;rintro v I' M' -⟨rfl,rfl,rfl⟩;refine bF.conv rfl (by simp) rfl (λw hw=>Lib.run_from_unsafe (u:=320) (e:=320) w ⟨b,0,none⟩ (by kernel_rfl) (by kernel_rfl) (j:=inf) (cells:=(Value.pointer none::v::bo).toArray.size) hi (Ld hw (cC.2 (.inl hm))) aA) ?_;refine cd.mk a9 post _ _ (dD _) rfl (by rw[dk];show 0+0+1<=(k+1)*2;omega) rfl ?_;exact⟨_,_,.refl,rfl,rfl,rfl⟩
def aoH{b:Nat}{T:Nat}(bb:(⟨b,.cells arr T (0,0)⟩:aF)∈M)(aw:arr[0]?=some (ptr b)) :
  Spec Tryz.prog 300 [ptr b] I M λr I' M'=>r=.tuple #[]/\I'=I/\M'=M:=by
 refine b0 [] a3 Tryz.func300 rfl rfl rfl ?_;intro B hx;have af:cY I M ((⟨b,0,none⟩:Addr).add 0) 1 [ptr b]:=by
  obtain⟨l⟩:=arr;cases l with
  |nil=>simp at aw| cons x l=>simp only[BH,List.getElem?_cons_zero,kJ]at aw;subst aw;exact dq (cs:=ptr b::l) (k:=0) (n:=1) bb (by simp)
 refine aV.mk [ptr b] af ?_;refine .other (bF.Lb a3 rfl (by simp) rfl rfl rfl rfl ?_);refine a5.mk (λh=>by cases h) (λ_=>?_);refine aV.mk [ptr b] af ?_;refine .other (bF.Xm a3 rfl (by simp) rfl rfl rfl rfl rfl ?_);refine a5.mk (λh=>by cases h) (λ_=>?_);exact⟨_,_,.refl,rfl,rfl,rfl⟩
def aoI{m:bz}{id off:Nat}{T fN:Nat}{a:Loc}{a9 post:List aF}(hm:df Y D m I M)(ax:m.t.get id=some (.cells cs T fN))(a6:D id=some a)(aC:a.o=0)(de:M=a9++⟨a.b,.cells arr T (0,0)⟩::post)(dk:a.o+fN<=arr.size)(ao:∀ i v,i<fN->cs.get i=some v->∃ x,arr[a.o+i]?=some x/\aW D v x)(ae:∀ i,Y.E T=some i->arr.size=a.o+a.c*i.size)(iA:a.c<=maxLen)
  {l:List ap} {vs:List Value} (aA:bO D l vs) {K:bz->Option R} {r:R} (h:yJ m (.p id off) l K=some r) :
  ∃ m',K m'=some r/\m'.n=m.n/\off+vs.length<=arr.size/\df Y D m' I (a9++⟨a.b,.cells (cq arr.toList off vs).toArray T (0,0)⟩::post):=by
 unfold yJ at h;simp only[ax]at h;cases ag:(Nat.ble (Nat.add off l.length) fN&&l.all ap.one)with
 |false=>rw[ag]at h;cases h
 |true=>
  rw[ag]at h;simp only[cp]at h;rw[cw]at ag;have AB:off+l.length<=fN:=bK ag.1;obtain⟨cs',aa,ab⟩:=bm.yM l cs off;rw[aa]at h;obtain⟨bf,ai,aL⟩:=bm.o7 (some (fx.cells cs' T fN)) m.t id;rw[ai]at h;have cQ:=aA.len;have iu:off+vs.length<=arr.size:=by omega
  refine⟨_,h,rfl,iu,?_⟩;have eV:∀ x∈M,x.num≠a.b->x∈a9++⟨a.b,.cells (cq arr.toList off vs).toArray T (0,0)⟩::post:=λx ad aD=>by
   rw[de]at ad;rcases cC.1 ad with ad | ad;·exact cC.2 (.inl ad)
   ·rcases eA.1 ad with rfl | ad
    ·exact(aD rfl).elim
    ·exact cC.2 (.inr (nS _ ad))
  refine hm.step (λi e hi=>(aL i e hi).imp (λq=>⟨q.1,pb q.2⟩) λq=>q) a6 (bS.le_refl D) (λ_ _=>rfl) hm.jV (λ_ _ h=>h) (λi e bN bD hi q0 x ad aD=>eV x ad ?_) ?_ ?_;·rw[aD];exact λag=>bD (hm.inj _ _ _ _ _ _ hi ax q0 a6 ag)
  ·have AD:(cq arr.toList off vs).length=arr.size:=by rw[Sd (by simpa using iu)];simp
   refine .cells (cq arr.toList off vs).toArray aC (by simp) (by simp[AD];exact dk) (λi v hi vA=>?_) (λi hi=>by simp[AD];exact ae i hi) iA;rw[aC,dp];simp only[BH];rw[aaR (by simpa using iu)];rcases ab i v vA with⟨a',bg⟩ | ⟨a',bg⟩;·have a4:=(iz.1 bg).1;rw[bT ⟨a',by omega⟩];exact aA.get bg
   ·rw[bP (by omega)];have:=ao i v hi bg;rw[aC,dp]at this;simpa using this
  ·intro i e bN bD hi q0 ag;exact bD (hm.inj _ _ _ _ _ _ hi ax q0 a6 ag)
noncomputable def S0(m:bz)(vs:List ap):Option (ap×bz):=match vs with
 |[.p id 0]=>(match m.t.get id with
  |some (.cells cs T fN)=>b4 (Nat.beq T 320&&Nat.ble 2 fN) (match cs.get 0 with
   |some .pn=>yJ m (.p id 0) [.p id 0] λm=>some (.t [],m)
   |some (.p iW 0)=>b4 (Nat.beq id iW) (some (.t [],m)) none| _=>none) none
  |_=>none)
 |_=>none
def aoJ(rO:Y.P=Tryz.prog)(aoK:Y.E=sJ){m m':bz}{vs:List ap}{v:ap}(h:S0 m vs=some (v,m'))(hu:bO D vs us)(hm:df Y D m I M) :
  Spec Y.P 300 us I M λr I' M'=>∃ bG,D.ext bG m.n/\aW bG v r/\df Y bG m' I' M':=by
 unfold S0 at h;split at h
 ·rename_i id;obtain⟨x,xs,ad,aD,rfl⟩:=hu.ky;obtain rfl:=aD.nU;obtain⟨a,a6,rfl⟩:=ad.ptr;split at h
  ·rename_i cs T fN ax;obtain⟨aa,aM⟩:=fZ h;clear h;rw[cw]at aa;obtain⟨bl,AB⟩:=aa;obtain rfl:=dJ bl;have AB:=bK AB;obtain⟨arr,aC,bb,aA,ao,ae,iA⟩:=hm.iV _ _ _ ax a6;have dk:=ae _ (by rw[aoK];rfl);have dk:arr.size=a.c*2:=by rw[dk,aC,dp]
   have aH:Value.pointer (some ⟨a.b,a.o+0,none⟩)=ptr a.b:=by rw[aC];rfl
   split at aM
   ·rename_i zM;obtain⟨wE,fQ,Ja⟩:=ao 0 _ (by omega) zM;obtain⟨a9,post,de⟩:=vt bb;obtain⟨cM,ab,ai,aL,bq⟩:=aoI hm ax a6 aC de aA ao ae iA (l:=[.p id 0]) (vs:=[ptr a.b]) (by simp only[bO,aW];exact⟨_,_,⟨a,a6,aH.symm⟩,rfl,rfl⟩) aM;cases ab;rw[aH,rO,de];obtain⟨l⟩:=arr;have aoL:wE=.pointer none:=by simpa only[aW]using Ja
    rw[aC]at fQ
    match l,fQ,dk with
    |[],fQ,_=>simp at fQ| [_],_,dk=>simp at dk;omega
    |y::w::bo,fQ,dk=>
     have aE:y=.pointer none:=by simpa[aoL]using fQ
     subst aE;have eJ:bo.length=2*(a.c-1):=by simp at dk;omega
     refine Spec.mH (aoG a9 post a.b w (a.c-1) bo eJ) ?_;rintro r I' M'⟨rfl,rfl,rfl⟩;exact⟨D,bS.pe,by simp only[aW,bO];exact⟨[],rfl,rfl⟩,bq⟩
   ·rename_i iW zM;obtain⟨ab,tY⟩:=fZ aM;obtain rfl:=dJ ab;cases tY;obtain⟨wE,fQ,Ja⟩:=ao 0 _ (by omega) zM;obtain⟨bN,s3,rfl⟩:=Ja.ptr;rw[a6]at s3;cases s3;rw[aH]at fQ |-;rw[rO];refine Spec.mH (aoH bb (by rw[<-fQ,aC])) ?_;rintro r I' M'⟨rfl,rfl,rfl⟩;exact⟨D,bS.pe,by simp only[aW,bO];exact⟨[],rfl,rfl⟩,hm⟩
   ·cases aM
  ·cases h
 ·cases h
def jq(I:aJ):List aF->aJ
 |[]=>I| x::l=>ins (jq I l) x.num x.obj
def MT{I:aJ}:∀ {M:List aF} {b:Nat} {o:Obj},jq I M b=some o->I b=some o\/∃ x∈M,x.num=b/\x.obj=o
 |[],b,o,h=>.inl h
 |x::l,b,o,h=>by
  unfold jq ins at h;by_cases e:b=x.num;·subst e;simp only[rj,cp,kJ]at h;exact .inr ⟨x,by simp,rfl,h⟩
  ·simp only[hF e,cb]at h;rcases MT h with h | ⟨y,aa,ab,ai⟩
   ·exact .inl h
   ·exact .inr ⟨y,by simp[aa],ab,ai⟩
def ab2{I:aJ}:∀ {M:List aF} (aD:(M.map (·.num)).Nodup) {x:aF},x∈M->jq I M x.num=some x.obj
 |y::l,aD,x,h=>by
  simp only[ca,mg]at aD;rcases eA.1 h with rfl | h;·unfold jq ins;simp only[rj,cp]
  ·have e:x.num≠y.num:=λe=>aD.1 (c0.2 ⟨x,h,e⟩);unfold jq ins;simp only[hF e,cb];exact ab2 aD.2 h
def S1{I:aJ}:∀ {M:List aF} (ah:∀ x∈M,I x.num=none) {b:Nat} {o:Obj},I b=some o->jq I M b=some o
 |[],ah,b,o,h=>h
 |y::l,ah,b,o,h=>by
  have e:b≠y.num:=λe=>by have:=ah y (by simp);rw[<-e,h]at this;cases this
  unfold jq ins;simp only[hF e,cb];exact S1 (λx ad=>ah x (by simp[ad])) h
def aoM(aD:(M.map (·.num)).Nodup)(ah:∀ x∈M,I x.num=none){b:Nat}{o:Obj}(h:ih I M b o):jq I M b=some o:=by
 rcases h with h | ⟨x,aa,rfl,rfl⟩
 ·exact S1 ah h
 ·exact ab2 aD aa
structure uk(I:aJ)(M:List aF)(J:aJ):Prop where
 az:∀ b o,ih I M b o->J b=some o
 inv:∀ b o,J b=some o->ih I M b o
def uk.le{J:aJ}(h:uk I M J):∀ b o,I b=some o->J b=some o:=λb o ag=>h.az b o (.inl ag)
def ab3(aa:eN I' M' w')(ab:Kept I [] w I' M' w'):uk I' M' (jq I' M')/\eN (jq I' M') [] w'/\Kept I [] w (jq I' M') [] w':=by
 refine⟨⟨λb o h=>aoM aa.bX aa.d h,λb o h=>?_⟩,⟨λb o h=>?_,by simp,by simp,by simp⟩,⟨λb o h=>S1 aa.d (ab.le _ _ h),λb o h=>?_,by simp,ab.dK,ab.out,ab.sz⟩⟩
 ·rcases MT h with h | ⟨x,a',bg,b5⟩
  ·exact .inl h
  ·exact .inr ⟨x,a',bg,b5⟩
 ·rcases MT h with h | ⟨x,a',rfl,rfl⟩
  ·exact aa.i _ _ h
  ·exact aa.m _ a'
 ·rcases MT h with h | ⟨x,a',rfl,rfl⟩
  ·exact ab.uM _ _ h
  ·rcases ab.wg _ a' with⟨y,aE,_⟩ | h
   ·cases aE
   ·exact .inr h
def Spec.jq{args:List Value}{Q:Value->aJ->List aF->Prop}(h:Spec P f args I [] Q):Spec P f args I [] λr J kQ=>kQ=[]/\(∀ b o,I b=some o->J b=some o)/\∃ I' M',Q r I' M'/\uk I' M' J:=by
 rcases h with⟨aa,ab⟩ | h
 ·refine .inl ⟨aa,λw hw=>?_⟩;refine(ab w hw).mono ?_;rintro e w'⟨v,I',M',aK,a7,ck,dM⟩;obtain⟨a',bg,b5⟩:=ab3 ck dM;exact⟨v,_,[],aK,⟨rfl,b5.le,I',M',a7,a'⟩,bg,b5⟩
 ·refine .inr λw hw=>?_;obtain⟨v,w',I',M',aK,a7,ck,dM⟩:=h w hw;obtain⟨a',bg,b5⟩:=ab3 ck dM;exact⟨v,w',_,[],aK,⟨rfl,b5.le,I',M',a7,a'⟩,bg,b5⟩
noncomputable def C2{α:Type}(l:List α):bm α:=bm.yF l .nil 0 id
def ab4{l:List α}{i:Nat}{v:α}(h:(C2 l).get i=some v):l[i]?=some v:=by
 obtain⟨t,aa,ab⟩:=bm.yM l (.nil:bm α) 0;unfold C2 at h;rw[aa]at h;rcases ab _ _ h with⟨_,h⟩ | ⟨_,h⟩
 ·simpa using h
 ·cases h
noncomputable def Jb:GT:=λg=>b4 (Nat.beq g 0) (some (C2 (jy.map (ap.i .i64)))) (b4 (Nat.beq g 1) (some (C2 (ve.map ap.s))) (b4 (Nat.beq g 2) (some (C2 [.i .i64 0,.i .i64 1,.s [63],.i .i64 0,.i .i64 (-1),.s [42],.i .i64 1,.i .i64 (-1),.s [43]])) (b4 (Nat.beq g 4) (some (C2 (hN.map (ap.i .u8)))) none)))
def S2{f:α->ap}{h:α->Value}(aB:∀ x D,aW D (f x) (h x)){l:List α}{i:Nat}{v:ap}(aj:(C2 (l.map f)).get i=some v):∃ x,(l.map h).toArray[i]?=some x/\∀ D,aW D v x:=by
 have:=ab4 aj;rw[ju]at this;cases ad:l[i]? with
 |none=>rw[ad]at this;cases this| some x=>rw[ad]at this;simp only[lb,kJ]at this;subst this;exact⟨h x,by simp[ad],aB x⟩
def aoN(bl:ff I hN):ID Jb I:=by
 intro g cs h;unfold Jb at h;rw[kx,kx,kx,kx]at h;cases aa:Nat.beq g 0 with
 |true=>rw[aa,cp]at h;obtain rfl:=dJ aa;have h:=e2 h;subst h;obtain⟨T,f,h⟩:=bl.c;exact⟨_,T,f,h,λi v aj=>S2 (f:=ap.i .i64) (h:=Value.int .i64) (λx D=>by simp only[aW]) aj⟩
 |false=>
 rw[aa,cb]at h;cases ab:Nat.beq g 1 with
 |true=>rw[ab,cp]at h;obtain rfl:=dJ ab;have h:=e2 h;subst h;obtain⟨T,f,h⟩:=bl.s;exact⟨_,T,f,h,λi v aj=>S2 (f:=ap.s) (h:=λl=>Value.string (strOf l)) (λx D=>by simp only[aW,strOf]) aj⟩
 |false=>
 rw[ab,cb]at h;cases ai:Nat.beq g 2 with
 |true=>
  rw[ai,cp]at h;obtain rfl:=dJ ai;have h:=e2 h;subst h;obtain⟨T,f,h⟩:=bl.p;refine⟨_,T,f,h,λi v aj=>?_⟩;have aj:=ab4 aj;rcases i with _ | _ | _ | _ | _ | _ | _ | _ | _ | i
  all_goals first | (cases aj;exact⟨_,rfl,λD=>by simp only[aW]<;>rfl⟩) | (simp at aj)
 |false=>
 rw[ai,cb]at h;cases aL:Nat.beq g 4 with
 |true=>rw[aL,cp]at h;obtain rfl:=dJ aL;have h:=e2 h;subst h;obtain⟨_,_,T,f,h⟩:=bl.d;exact⟨_,T,f,h,λi v aj=>S2 (f:=ap.i .u8) (h:=Value.int .u8) (λx D=>by simp only[aW]) aj⟩
 |false=>
 rw[aL,cb]at h;cases h
noncomputable def MU:List UInt8->Nat->Nat->Int
 |[],_,_=>-1| b::l,c,k=>b4 (Nat.beq b.toNat c) (Int.ofNat k) (MU l c (Nat.succ k))
def ab5(c:UInt8):∀ (l:List UInt8) (k:Nat),MU l c.toNat k=if Lib.indexByte l c=-1 then -1 else Lib.indexByte l c+k
 |[],k=>rfl
 |b::l,k=>by
  have c8:=Lib.indexByte_ge l c;unfold MU Lib.indexByte;rw[kx];by_cases h:b=c;·subst h;simp
  ·have aa:Nat.beq b.toNat c.toNat=false:=by
    cases ag:Nat.beq b.toNat c.toNat with
    |false=>rfl| true=>exact absurd (UInt8.toNat_inj.1 (dJ ag)) h
   have ab:(b == c)=false:=by simpa using h
   rw[aa,cb,ab,ab5 c l];simp only[k',mh];by_cases ai:Lib.indexByte l c=-1;·simp[ai]
   ·have aL:(Lib.indexByte l c == -1)=false:=by simpa using ai
    rw[aL,bP ai];simp only[k',mh];rw[bP (by omega)];omega
def ab6:xm Tryz.prog:=an9 (by kernel_rfl)
def ab7:Tryz.prog.follows .mixedOrders=true:=by kernel_rfl
noncomputable def ab8:gU:=⟨Tryz.prog,sJ,λ_=>none,λ_ _ _=>none⟩
noncomputable def ab9:List vK:=[.map [(.i .u8 123,.f 323 [] []),(.i .u8 34,.f 324 [] []),(.i .u8 91,.f 325 [] []),(.i .u8 46,.f 326 [] []),(.i .u8 47,.f 345 [] [.p 1 0]),(.i .u8 38,.f 345 [] [.p 2 0]),(.i .u8 33,.f 345 [] [.p 3 0]),(.i .u8 63,.f 345 [] [.p 4 0]),(.i .u8 42,.f 345 [] [.p 5 0]),(.i .u8 43,.f 345 [] [.p 6 0]),(.i .u8 40,.f 345 [] [.p 7 0]),(.i .u8 41,.f 345 [] [.p 8 0]),(.i .u8 60,.f 328 [] []),(.i .u8 62,.f 345 [] [.p 10 0]),(.i .u8 58,.f 345 [] [.p 11 0]),(.i .u8 65,.f 329 [] []),(.i .u8 66,.f 329 [] []),(.i .u8 67,.f 329 [] []),(.i .u8 68,.f 329 [] []),(.i .u8 69,.f 329 [] []),(.i .u8 70,.f 329 [] []),(.i .u8 71,.f 329 [] []),(.i .u8 72,.f 329 [] []),(.i .u8 73,.f 329 [] []),(.i .u8 74,.f 329 [] []),(.i .u8 75,.f 329 [] []),(.i .u8 76,.f 329 [] []),(.i .u8 77,.f 329 [] []),(.i .u8 78,.f 329 [] []),(.i .u8 79,.f 329 [] []),(.i .u8 80,.f 329 [] []),(.i .u8 81,.f 329 [] []),(.i .u8 82,.f 329 [] []),(.i .u8 83,.f 329 [] []),(.i .u8 84,.f 329 [] []),(.i .u8 85,.f 329 [] []),(.i .u8 86,.f 329 [] []),(.i .u8 87,.f 329 [] []),(.i .u8 88,.f 329 [] []),(.i .u8 89,.f 329 [] []),(.i .u8 90,.f 329 [] []),(.i .u8 95,.f 329 [] []),(.i .u8 97,.f 329 [] []),(.i .u8 98,.f 329 [] []),(.i .u8 99,.f 329 [] []),(.i .u8 100,.f 329 [] []),(.i .u8 101,.f 329 [] []),(.i .u8 102,.f 329 [] []),(.i .u8 103,.f 329 [] []),(.i .u8 104,.f 329 [] []),(.i .u8 105,.f 329 [] []),(.i .u8 106,.f 329 [] []),(.i .u8 107,.f 329 [] []),(.i .u8 108,.f 329 [] []),(.i .u8 109,.f 329 [] []),(.i .u8 110,.f 329 [] []),(.i .u8 111,.f 329 [] []),(.i .u8 112,.f 329 [] []),(.i .u8 113,.f 329 [] []),(.i .u8 114,.f 329 [] []),(.i .u8 115,.f 329 [] []),(.i .u8 116,.f 329 [] []),(.i .u8 117,.f 329 [] []),(.i .u8 118,.f 329 [] []),(.i .u8 119,.f 329 [] []),(.i .u8 120,.f 329 [] []),(.i .u8 121,.f 329 [] []),(.i .u8 122,.f 329 [] [])],.cells [.i .u8 3] 5,.cells [.i .u8 4] 5,.cells [.i .u8 5] 5,.cells [.i .u8 6] 5,.cells [.i .u8 7] 5,.cells [.i .u8 8] 5,.cells [.i .u8 9] 5,.cells [.i .u8 10] 5,.cells [.i .u8 11] 5,.cells [.i .u8 12] 5,.cells [.i .u8 13] 5]
def aoO:(bx (yL ab8 (lE ab8 100000) 302 [] ⟨.nil,0⟩) none λp=>bx (readAll p.2.t 0 p.2.n) none λL=>some (p.1,L))=some (ap.m 0,ab9):=by kernel_rfl
noncomputable def S3:l8:=λg vs m=>b4 (Nat.beq g 364) (match vs with
 |[.s l,.i .u8 (.ofNat k)]=>b4 (Nat.blt k 256) (some (.i .i64 (MU l k 0),m)) none| _=>none) (b4 (Nat.beq g 322) (match vs with
 |[v]=>some (v,m)| _=>none) (b4 (Nat.beq g 302) (match vs with
 |[]=>SX (.m 0) ab9 m| _=>none) (b4 (Nat.beq g 300) (S0 m vs) none)))
noncomputable def vL:gU:=⟨Tryz.prog,sJ,Jb,S3⟩
def aoP:yU vL:=by
 intro g vs m v m' h D I M us hu hm;change S3 g vs m=some (v,m')at h;unfold S3 at h;rw[kx]at h;cases aa:Nat.beq g 364 with
 |true=>
  rw[aa,cp]at h;obtain rfl:=dJ aa;split at h
  ·rename_i l k;rw[kx]at h;cases ae:Nat.blt k 256 with
   |false=>rw[ae]at h;cases h
   |true=>
    rw[ae,cp]at h;have hR:k<256:=Nat.blt_eq ▸ ae;cases h;simp only[bO,aW]at hu;obtain⟨x,xs,rfl,⟨y,ys,rfl,rfl,rfl⟩,rfl⟩:=hu;have p0:(UInt8.ofNat k).toNat=k:=by simp;omega
    have:=Xo (I:=I) (M:=M) ⟨l.toArray⟩ (UInt8.ofNat k);rw[p0]at this;refine Spec.mH this ?_;rintro r I' M'⟨rfl,rfl,rfl⟩;refine⟨D,bS.pe,?_,hm⟩;simp only[aW];have:=ab5 (UInt8.ofNat k) l 0;rw[p0]at this;rw[this];split;·rename_i e;simp[e]
    ·simp
  ·cases h
 |false=>
 rw[aa,cb,kx]at h;cases ab:Nat.beq g 322 with
 |true=>
  rw[ab,cp]at h;obtain rfl:=dJ ab;split at h;·cases h;simp only[bO]at hu;obtain⟨x,xs,hu,rfl,rfl⟩:=hu;refine Spec.mH (PO _) ?_;rintro r I' M'⟨rfl,rfl,rfl⟩;exact⟨D,bS.pe,hu,hm⟩
  ·cases h
 |false=>
 rw[ab,cb,kx]at h;cases ai:Nat.beq g 302 with
 |true=>
  rw[ai,cp]at h;obtain rfl:=dJ ai;split at h;·obtain⟨⟨xn,jT⟩,aL,bq⟩:=cy aoO;obtain⟨L,b',dZ⟩:=cy bq;cases dZ;exact aoD (Y:=vL) a3 ab6 ab7 aL b' (λD us h=>by simpa only[bO]using h) h hu hm
  ·cases h
 |false=>
 rw[ai,cb,kx]at h;cases aL:Nat.beq g 300 with
 |true=>rw[aL,cp]at h;obtain rfl:=dJ aL;exact aoJ rfl rfl h hu hm
 |false=>
 rw[aL,cb]at h;cases h
def aca(bl:ff I hN){m':bz}{v:ap}(h:yL vL (lE vL f) g args ⟨.nil,0⟩=some (v,m'))(hu:bO (λ_=>none) args us) :
  Spec Tryz.prog g us I [] λr J kQ=>kQ=[]/\(∀ b o,I b=some o->J b=some o)/\∃ I' M' bG,aW bG v r/\df vL bG m' I' M'/\uk I' M' J:=by
 have hm:df vL (λ_=>none) ⟨.nil,0⟩ I []:=⟨λid e a h bj=>(by cases bj),λid iW e cU a bN h aa bj=>(by cases bj),λid a h=>(by cases h),aoN bl⟩;refine Spec.mH (reckon (Y:=vL) a3 ab6 aoP ab7 h hu hm).jq ?_;rintro r J kQ⟨rfl,aa,I',M',⟨bG,-,ab,ai⟩,aL⟩;exact⟨rfl,aa,I',M',bG,ab,ai,aL⟩
def aoQ:∀ {l:List Int} (h:0<l.length),l.headD 0=l[0]
 |a::l,_=>rfl
def oj(ns:List al)(xs:List aR):Bool:=ns.any λd=>decide (d.k=6)&&(decide (d.hi=-1)&&(xs.getD (d.aq.headD 0).toNat ch).z)
def aoR(p:α->Bool)(l:List α)(x:α):(l++[x]).any p=(l.any p||p x):=by simp
def aoS{p:α->Bool}{l:List α}{i:Nat}(h:(l.take i).any p=true):l.any p=true:=by rw[Fh]at h |-;obtain⟨x,ad,aH⟩:=h;exact⟨x,u5 ad,aH⟩
def aoT{t:bn}(au:t.ok I)(af:right t=true){xa:Option Addr}{xc:Nat}{xs:List aR}(ad:l5 I M0 xa t.n xs):Spec Tryz.prog 220 [t.val,.slice xa t.n xc] I M0 λv I' M'=>v=.bool (oj t.ns xs)/\I'=I/\M'=M0:=by
 refine b0 [] a3 Tryz.func220 rfl rfl rfl ?_;intro B aw;have ho:=au.n;have hy:=au.ba.cap;have q3:=ad.n;refine dx.inv (ι:=Nat) (λi=>{ bp:=[(1,.val (.slice xa t.n xc)),(8,.val (.slice t.a t.n t.c)),(9,.val (.int .i64 t.n)),(10,.val (.int .i64 i))],cP:=I,da:=M0 }) (λi=>i<=t.n/\(t.ns.take i).any (λd=>decide (d.k=6)&&(decide (d.hi=-1)&&(xs.getD (d.aq.headD 0).toNat ch).z))=false) (λi=>t.n-i) ?_ ?_
 ·exact⟨0,⟨dj _,rfl⟩,.refl,dY,.nil⟩
 rintro i⟨hi,eD⟩;refine a5.mk (λh=>?_) (λh=>?_)
 rotate_left
 ·have c8:i=t.n:=by have:¬ (i:Int)<(t.n:Int):=dP h;omega
  rw[fS (by omega)]at eD;refine⟨_,_,.refl,?_,rfl,rfl⟩;rw[oj,eD]
 have a4:i<t.n:=by have:(i:Int)<(t.n:Int):=c5 h;omega
 have cJ:i<t.ns.length:=by omega
 obtain⟨aP,bI,bt⟩:=au.ba.row al.cH a4 cJ;have ah:=au.ns _ (bJ cJ);have tX:=Eb af cJ;have hZ:=ly af i cJ;have fh:=ah.az;have mG:(t.ns.take (i+1)).any (λd=>decide (d.k=6)&&(decide (d.hi=-1)&&(xs.getD (d.aq.headD 0).toNat ch).z))=(decide (t.ns[i].k=6)&&(decide (t.ns[i].hi=-1)&&(xs.getD (t.ns[i].aq.headD 0).toNat ch).z)):=by rw[gH cJ,aoR,eD,uT]
 generalize t.ns[i]=d at bt ah tX hZ fh mG;refine bA.mk aP i bI rfl a4 ?_;refine aV.mk _ (bt _) ?_;refine cT.mk (λb'=>?_) (λb'=>?_)
 rotate_left
 ·have MV:decide (d.k=6)=false:=b';rw[MV]at mG;refine be.mk _ (dc (i:=i) (by omega)) ?_;exact⟨i+1,⟨⟨a4,mG⟩,by omega⟩,.refl,dY,.nil⟩
 have MV:decide (d.k=6)=true:=b';have axO:d.k=6:=c5 MV;rw[MV,qJ]at mG;refine cT.mk (λaa=>?_) (λaa=>?_)
 rotate_left
 ·have tK:decide (d.hi=-1)=false:=aa;rw[tK]at mG;refine be.mk _ (dc (i:=i) (by omega)) ?_;exact⟨i+1,⟨⟨a4,mG⟩,by omega⟩,.refl,dY,.nil⟩
 have tK:decide (d.hi=-1)=true:=aa;rw[tK,qJ]at mG;have lv:0<d.aq.length:=by have:=YQ ah.k.1 tX (by omega);omega
 obtain⟨gv,fm,fe⟩:=ah.ba.one (j:=0) (by omega) lv;have aj:=hZ _ (bJ lv);have c4:d.aq.headD 0=d.aq[0]:=aoQ lv;rw[c4]at mG;have hA:d.aq[0].toNat<xs.length:=by omega
 obtain⟨S4,S5,ph⟩:=ad.rd _ hA;have ax:xs.getD d.aq[0].toNat ch=xs[d.aq[0].toNat]:=by simp[bM,hA]
 rw[ax]at mG;refine bA.mk gv 0 fm rfl (by omega) ?_;refine aV.mk _ (fe _) ?_;refine bA.mk S4 d.aq[0].toNat S5 (by omega) (by omega) ?_;refine aV.mk _ (ph.part (k:=0) (m:=1) (by decide)) ?_;refine a5.mk (λbd=>?_) (λbd=>?_)
 ·have gO:xs[d.aq[0].toNat].z=true:=bd;refine⟨_,_,.refl,?_,rfl,rfl⟩;rw[oj,aoS (i:=i+1) (by rw[mG,gO])]
 ·have gO:xs[d.aq[0].toNat].z=false:=bd;rw[gO]at mG;refine be.mk _ (dc (i:=i) (by omega)) ?_;exact⟨i+1,⟨⟨a4,mG⟩,by omega⟩,.refl,dY,.nil⟩
def eb.mark(s:eb)(i k:Nat):eb:=⟨s.n,s.m.set i (s.m.getD i 0 ||| lB k),s.w⟩
def kB(b:Nat)(s:eb):aF:=⟨b,.cells s.cells.toArray 205 (0,0)⟩
def eb.cH(s:eb):s.cells.length=66:=by simp[eb.cells,uj]
def aoU{b:Nat}{s:eb}(bb:kB b s∈M)(ak:j<64):cY I M (((⟨b,0,none⟩:Addr).add 1).add (j*1)) 1 [o9 (s.m.getD j 0)]:=by rw[eO (⟨b,0,none⟩:Addr) rfl,eO _ rfl];refine⟨rfl,_,_,_,.inr ⟨_,bb,rfl,rfl⟩,?_,rfl⟩;simp only[dp,gP];show(s.cells.drop (1+j)).take 1=_;rw[eb.cells,Gv 1 j,Ig,Q9 (by rw[uj];omega),fi (by rw[uj];exact ak),pN,ry,qx];simp[k4]
def aoV{s:eb}(av:s.m.length=64){i k:Nat}(hi:i<64):cq s.cells (0+1+i*1) [o9 (s.m.getD i 0 ||| lB k)]=(s.mark i k).cells:=by
 unfold eb.cells eb.mark;simp only;have aK:cq (Value.int .i64 s.n::(k4 s.m++[o9 s.w])) (0+1+i*1) [o9 (s.m.getD i 0 ||| lB k)]=Value.int .i64 s.n::(cq (k4 s.m) (0+i*1) [o9 (s.m.getD i 0 ||| lB k)]++[o9 s.w]):=by have h:=aau [Value.int .i64 s.n] (k4 s.m) [o9 s.w] i [o9 (s.m.getD i 0 ||| lB k)] (by rw[uj];show i+1<=64;omega);simp only[o5,qO,eo,g3,dp,gP]at h |-;exact h
 rw[aK,aaE s.m av i hi]
def cd.aoW{b x y:Nat}{vs:List Value}{K:List aF->Prop}(a9 post:List aF)(cs:List Value)(T:Nat)(bb:M=a9++⟨b,.cells cs.toArray T (0,0)⟩::post)(ag:0+x+y+vs.length<=cs.length)(aa:fJ vs=true)
  (cs':List Value) (he:cq cs (0+x+y) vs=cs') (h:K (a9++⟨b,.cells cs'.toArray T (0,0)⟩::post)):cd M (((⟨b,0,none⟩:Addr).add x).add y) vs K:=by
 rw[eO (⟨b,0,none⟩:Addr) rfl,eO _ rfl];exact cd.dF a9 post cs.toArray T bb rfl (by rw[nO];simpa using ag) aa cs' he h
def aoX{M1:List aF}{g:cg}(ax:g.ok I){nm:ByteArray}{k:Nat}(ae:eP nm g.ds 0=k)(S6:k<64){b6 b7 i:Nat}(hi:i<64){s:eb}(av:s.m.length=64)(aa:(⟨b1,.cells #[.slice g.a g.n g.c] 30 (0,0)⟩:aF)∈M1)(dZ:(⟨b7,.cells #[.int .i64 i] 3 (0,0)⟩:aF)∈M1) :
  Spec Tryz.prog 219 [.string nm,ptr b1,ptr b6,ptr b7] I (kB b6 s::M1) λv I' M'=>I'=I/\M'=kB b6 (s.mark i k)::M1:=by
 refine b0 [] a3 Tryz.func219 rfl rfl rfl ?_;intro B aw;refine aV.mk [.slice g.a g.n g.c] ⟨rfl,_,_,_,.inr ⟨_,.tail _ aa,rfl,rfl⟩,rfl,rfl⟩ ?_;have aB:Spec Tryz.prog 124 [g.val,.string nm] I (kB b6 s::M1) λv I' M'=>v=.int .i64 k/\I'=I/\M'=kB b6 s::M1:=by refine Spec.mH (Spec.frame (ajM ax nm)) ?_;rintro v J M⟨M',rfl,-,-,rfl,rfl,rfl⟩;rw[ae];exact⟨rfl,rfl,rfl⟩
 refine bc.whole _ aB ?_;rintro v J N -⟨rfl,a8,hC⟩;subst J;subst N;refine a5.mk (λ_=>?_) (λh=>?_)
 rotate_left
 ·have:¬ (0:Int)<=(k:Int):=dP h;omega
 refine c2.draw a3 rfl rfl rfl ?_;refine aV.mk [.int .i64 i] ⟨rfl,_,_,_,.inr ⟨_,.tail _ dZ,rfl,rfl⟩,rfl,rfl⟩ ?_;refine cA.mk i rfl hi ?_;refine aV.mk _ (aoU (.head _) hi) ?_;refine sy.mk k rfl ?_;refine be.mk _ (R3 S6) ?_;refine cA.mk i rfl hi ?_;refine cd.aoW [] M1 s.cells _ rfl ?_ rfl (s.mark i k).cells ?_ ?_
 ·rw[eb.cH];show 0+1+i*1+1<=66;omega
 ·show cq s.cells (0+1+i*1) [Value.int .u64 (k3 (s.m.getD i 0).toNat (lB k).toNat)]=_;rw[ui];exact aoV av hi
 exact⟨_,_,.refl,rfl,rfl⟩
section
end
structure aoY(d:al)(n:Int):Prop where
 z:d.k=0->d.t=⟨#[]⟩
 leaf:d.k<=3->n=0
 one:6<=d.k->n=1
 two:d.k=4\/d.k=5->2<=n
def acb{d:al}{n:Int}(aw:0<=d.k)(h:fits d n=true):aoY d n:=by
 have av:=(PU h).k;have ae:d.k=0\/d.k=1\/d.k=2\/d.k=3\/d.k=4\/d.k=5\/d.k=6\/d.k=7\/d.k=8\/d.k=9:=by omega
 have dm:∀ j:Fin 10,oQ j.val=jy.getD (j.val*2) 0/\nF j.val=jy.getD (j.val*2+1) 0:=by decide
 unfold fits at h;rcases ae with e | e | e | e | e | e | e | e | e | e<;>rw[e]at h<;>simp[oQ,nF,jy]at h <;>
  refine⟨λq=>?_,λq=>?_,λq=>?_,λq=>?_⟩<;>first | (omega;done) | (exact h.2.2.1;done) | (exact h.2.1;done) | (simp_all;done)
def acc(nm:ByteArray):∀ (ds:List a0) (i:Nat),eP nm ds i=bif decide (eP nm ds 0<0)then -1 else eP nm ds 0+i
 |[],i=>rfl
 |d::ds,i=>by
  unfold eP;cases h:decide (d.name=nm)with
  |true=>
   have:decide ((((0:Nat):Int))<0)=false:=by decide
   simp[this]
  |false=>
   rw[cb,cb,acc nm ds (i+1),acc nm ds (0+1)];have af:eP nm ds 0<0\/0<=eP nm ds 0:=by omega
   rcases af with af | af;·rw[iQ af];rfl
   ·have e:decide (eP nm ds 0<0)=false:=fo (by omega);rw[e,cb,cb];have a7:decide (eP nm ds 0+((0+1:Nat):Int)<0)=false:=fo (by omega);rw[a7,cb];omega
def acd(nm:ByteArray)(av cB:List a0):eP nm (av++cB) 0=bif decide (eP nm av 0<0)then eP nm cB av.length else eP nm av 0:=by
 have key:∀ (av:List a0) (i:Nat),eP nm (av++cB) i=bif decide (eP nm av i<0)then eP nm cB (i+av.length)else eP nm av i:=by
  intro av
  induction av with
  |nil=>intro i;simp[eP]
  |cons d av aN=>
   intro i;rw[pN,eP,eP];cases decide (d.name=nm)with
   |true=>have:decide ((i:Int)<0)=false:=fo (by omega);rw[cp,cp,this,cb]| false=>rw[cb,cb,aN (i+1),eo];rw[show i+1+av.length=i+(av.length+1)from by omega]
 have:=key av 0;rwa [dp]at this
structure Fv(av:List a0)(aZ:List (ByteArray×Int)):Prop where
 look:∀ nm,(eQ nm aZ).isSome=decide (0<=eP nm av 0)
def ace(nm:ByteArray)(p:ByteArray×Int):∀ aZ:List (ByteArray×Int),(eQ nm (aZ++[p])).isSome=((eQ nm aZ).isSome||decide (nm=p.1))
 |[]=>by
  show(bif decide (nm=p.1)then some p.2 else none:Option Int).isSome=_;cases decide (nm=p.1)<;>rfl
 |q::aZ=>by
  rw[pN,eQ,eQ];cases decide (nm=q.1)with
  |true=>rfl| false=>rw[cb,cb,ace nm p aZ]
def Fv.snoc{av:List a0}{aZ:List (ByteArray×Int)}(h:Fv av aZ)(d:a0)(v:Int):Fv (av++[d]) (aZ++[(d.name,v)]):=by
 refine⟨λnm=>?_⟩;rw[ace,h.look,acd];by_cases af:eP nm av 0<0
 ·rw[iQ af,cp,fo (by omega:¬ 0<=eP nm av 0),uT];unfold eP;have:decide (d.name=nm)=decide (nm=d.name):=decide_eq_decide.2 ⟨Eq.symm,Eq.symm⟩;rw[this];cases decide (nm=d.name)with
  |true=>simp| false=>rw[cb];rfl
 ·rw[fo af,cb,iQ (by omega:0<=eP nm av 0),Bool.true_or]
def p'(ds:List a0)(i:Nat):Bool:=match ds[i]? with
 |some d=>decide (eP d.name ds 0=i)| none=>true
def aoZ(d:a0)(cB:List a0)(i:Nat):eP d.name (d::cB) i=i:=by rw[eP,iQ rfl];rfl
def ao0(cB:List a0):∀ (av:List a0) (aZ:List (ByteArray×Int)),Fv av aZ->(∀ i,i<av.length->p' (av++cB) i=true) ->
  match l1 aZ av.length cB with
  |none=>∃ i,i<(av++cB).length/\p' (av++cB) i=false/\∀ k,k<i->p' (av++cB) k=true| some r=>Fv (av++cB) r/\∀ i,i<(av++cB).length->p' (av++cB) i=true:=by
 induction cB with
 |nil=>intro av aZ h aB;rw[dD]at *;exact⟨h,aB⟩
 |cons d cB aN=>
  intro av aZ h aB;have eU:(av++d::cB)[av.length]?=some d:=by simp
  have pF:p' (av++d::cB) av.length=!(eQ d.name aZ).isSome:=by
   unfold p';rw[eU,h.look];simp only;rw[acd];by_cases af:eP d.name av 0<0;·rw[iQ af,cp,aoZ];simp;omega
   ·rw[fo af,cb];have a4:eP d.name av 0<av.length:=by
     have:∀ (av:List a0) (i:Nat),0<=eP d.name av i->eP d.name av i<i+av.length:=by
      intro av
      induction av with
      |nil=>intro i h;simp[eP]at h
      |cons e av S7=>
       intro i h;unfold eP at h |-;cases ao:decide (e.name=d.name)with
       |true=>simp;omega| false=>rw[ao,cb]at h;rw[cb];have:=S7 (i+1) h;simp;omega
     have:=this av 0 (by omega);omega
    have aK:decide (eP d.name av 0=(av.length:Int))=false:=fo (by omega);have a7:decide (0<=eP d.name av 0)=true:=iQ (by omega);rw[aK,a7];rfl
  rw[l1];cases aA:(eQ d.name aZ).isSome with
  |true=>rw[aA]at pF;exact⟨av.length,by simp,pF,aB⟩
  |false=>
   rw[aA]at pF;have:=aN (av++[d]) (aZ++[(d.name,(av.length:Int))]) (h.snoc d _) (λi hi=>by
    rw[ec];simp at hi;rcases Nat.lt_or_eq_of_le (Nat.lt_succ_iff.1 (by omega:i<av.length+1))with aa | aa;·exact aB i aa
    ·rw[aa];exact pF)
   rw[cm,ec]at this;exact this
def ao1:Fv [] []:=⟨λnm=>by simp[eQ,eP]⟩
def yX(ds:List a0)(n:al):Bool:=!decide (n.k=3)||decide (0<=eP n.t ds 0)
def acf(p:al->Bool):∀ (ds:List a0) (i:Nat),((qP i ds).all λx=>p x.2)=ds.all λd=>d.t.ns.all p
 |[],i=>rfl| d::ds,i=>by rw[qP,Hi,xN,acf p ds (i+1),Lt];rfl
def MW(ay:List Int)(g:cg):Int:=
 bif decide ((g.n:Int)=0)then 4 else bif !n' g.ds then 4 else bif pX ay g then 40 else
 bif !(List.range g.ds.length).all (p' g.ds)then 6 else bif g.ds.all λd=>d.t.ns.all (yX g.ds)then 0 else 41
def acg(ay:List Int)(g:cg):MW ay g=du ay g:=by
 unfold MW du;have h:=ao0 g.ds [] [] ao1 (λi hi=>by simp at hi);simp only[g3,hX]at h;cases ah:l1 [] 0 g.ds with
 |none=>
  rw[ah]at h;obtain⟨i,aa,ab,_⟩:=h;have:(List.range g.ds.length).all (p' g.ds)=false:=by rw[Bool.eq_false_iff];intro eI;rw[fV]at eI;have:=eI i (j0.2 aa);rw[ab]at this;cases this
  rw[this];rfl
 |some aZ=>
  rw[ah]at h;obtain⟨aa,ab⟩:=h;have ai:(List.range g.ds.length).all (p' g.ds)=true:=by rw[fV];intro i hi;exact ab i (j0.1 hi)
  rw[ai];have aL:(g.ds.all λd=>d.t.ns.all (yX g.ds))=rX aZ g.ds:=by unfold rX;rw[acf];congr 1;funext d;congr 1;funext n;unfold Aa yX;rw[aa.look]
  rw[aL];rfl
def ach(nm:ByteArray):∀ (ds:List a0) (i:Nat),yC nm ds i=bif decide (eP nm ds i<0)then none else some (eP nm ds i)
 |[],i=>rfl
 |d::ds,i=>by
  unfold yC eP;rw[show decide (nm=d.name)=decide (d.name=nm) by rw[tj];simp[eq_comm]];cases decide (d.name=nm)with
  |true=>rw[cp,cp,fo (by omega)];rfl| false=>rw[cb,cb];exact ach nm ds (i+1)
def ao2(nm:ByteArray)(ds:List a0):eQ nm (bL ds)=bif decide (eP nm ds 0<0)then none else some (eP nm ds 0):=by rw[QK,ach]
def aci{nm:ByteArray}{ds:List a0}(h:(eQ nm (bL ds)).isSome=true):∃ q:Nat,eP nm ds 0=q/\q<ds.length/\((eQ nm (bL ds)).getD 0).toNat=q:=by
 have lW:=ao2 nm ds;cases ah:decide (eP nm ds 0<0)with
 |true=>rw[ah,cp]at lW;rw[lW]at h;cases h| false=>rw[ah,cb]at lW;have aL:¬ eP nm ds 0<0:=dP ah;obtain⟨q,aM⟩:=eF (by omega:0<=eP nm ds 0);have acj:=lW;rw[QK]at acj;obtain⟨j,K7,tH⟩:=QL acj;refine⟨q,aM,by omega,?_⟩;rw[lW,aM];rfl
def eb.marks(s:eb)(i:Nat)(l:List Nat):eb:=l.foldl (λs k=>s.mark i k) s
def eb.ack(s:eb)(i:Nat)(l m:List Nat):s.marks i (l++m)=(s.marks i l).marks i m:=tT
def eb.Fw:∀ (l:List Nat) (s:eb) (i:Nat),(s.marks i l).m.length=s.m.length
 |[],s,i=>rfl| k::l,s,i=>by have:=eb.Fw l (s.mark i k) i;unfold eb.marks at this |-;rw[kl,this];simp[eb.mark]
def S8(b1 b6 b7:Nat):Value:=.func (.func 219) #[] #[ptr b1,ptr b6,ptr b7]
def acm{I:aJ}{g:cg}(ax:g.ok I)(k6:g.n<=64){t:bn}(au:t.ok I)(jF:vz t)(af:right t=true)(eD:vp (bL g.ds) t.ns=true){F:List aR}{M1:List aF}{b1 b6 b7 i:Nat}(hi:i<64)(aa:(⟨b1,.cells #[.slice g.a g.n g.c] 30 (0,0)⟩:aF)∈M1)(dZ:(⟨b7,.cells #[.int .i64 i] 3 (0,0)⟩:aF)∈M1){xa:Option Addr}{xc:Nat}(ad:l5 I M1 xa t.n (ev (bL g.ds) F t.ns [])) : ∀ (m j:Nat),j<m->∀ (ak:j<t.ns.length) (s:eb) (av:s.m.length=64),Spec Tryz.prog 218 [t.val,.slice xa t.n xc,.int .i64 j,S8 b1 b6 b7] I (kB b6 s::M1) λv I' M'=>I'=I/\M'=kB b6 (s.marks i (gz (bL g.ds) F t.ns j).2)::M1
 |0,j,h,_,_,_=>absurd h (ng _)
 |m+1,j,acn,ak,s,av=>by
  have aN:=acm (b6:=b6) (xc:=xc) ax k6 au jF af eD hi aa dZ ad m;have ho:=au.n;have hL:=ax.n;have hb:=bJ ak;have ah:=au.ns _ hb;have fh:=ah.az;have S9:=jF _ hb;have iu:=Eb af ak;have S':=acb ah.k.1 iu;have hZ:=ly af j ak;have mq:=fV.1 eD _ hb;have bk:=Q7 (pl:=bL g.ds) (F:=F) af ak;have kb:=HZ (bL g.ds) F t.ns [];simp only[g3,dp]at kb;obtain⟨aP,bI,bt⟩:=au.ba.row al.cH (show j<t.n by omega) ak;have wM:(gz (bL g.ds) F t.ns j).2=lA (bL g.ds) t.ns[j] (t.ns[j].aq.map (gz (bL g.ds) F t.ns)):=by rw[bk];rfl
  rw[wM];clear bk wM;have vM:∀ q (h:q<t.ns[j].aq.length),∃ k:Nat,t.ns[j].aq[q]=k/\k<j:=λq h=>by have:=hZ _ (bJ h);exact⟨t.ns[j].aq[q].toNat,by omega,by omega⟩
  generalize t.ns[j]=d at *;refine b0 [] a3 Tryz.func218 rfl rfl rfl ?_;intro B aw;refine bA.mk aP j bI rfl (by omega) ?_;refine aV.mk _ (bt _) ?_;refine a5.mk (λe=>?_) (λck=>?_);·have e:d.k=3:=c5 e;obtain⟨q,H0,tY,Ta⟩:=aci (nm:=d.t) (ds:=g.ds) (by simpa[e]using mq);refine bc.whole _ (aoX ax H0 (by omega) hi av aa dZ) ?_;rintro v J N -⟨a8,hC⟩;subst J;subst N;refine⟨_,_,.refl,rfl,?_⟩;rw[lA,iQ e,cp,Ta];rfl
  have ck:¬ d.k=3:=dP ck;refine a5.mk (λe=>?_) (λdM=>?_)
  ·have e:d.k=4:=c5 e;have C3:lA (bL g.ds) d (d.aq.map (gz (bL g.ds) F t.ns))=ke (d.aq.map (gz (bL g.ds) F t.ns)):=by rw[lA,fo ck,iQ e];rfl
   rw[C3];refine dx.inv (ι:=Nat×eb) (λx=>{ bp:=[(1,.val (.slice xa t.n xc)),(3,.val (S8 b1 b6 b7)),(4,.ref 4 0),(42,.val (.slice d.cf d.az d.cx)),(43,.val (.int .i64 d.az)),(44,.val (.int .i64 x.1))],cl:=[(4,t.cells)],cP:=I,da:=kB b6 x.2::M1 }) (λx=>x.1<=d.az/\x.2.m.length=64/\s.marks i (ke (d.aq.map (gz (bL g.ds) F t.ns)))=x.2.marks i (ke ((d.aq.drop x.1).map (gz (bL g.ds) F t.ns)))) (λx=>d.az-x.1) ?_ ?_;·exact⟨(0,s),⟨dj _,av,rfl⟩,.refl,zz,.cons rfl (.nil)⟩
   rintro⟨q,cn⟩⟨aM,oD,eW⟩;simp only at aM oD eW;refine a5.mk (λh=>?_) (λh=>?_)
   rotate_left
   ·have c8:d.aq.length<=q:=by have:¬ (q:Int)<(d.az:Int):=dP h;omega
    rw[s4 c8]at eW;refine⟨_,_,.refl,rfl,?_⟩;rw[eW];rfl
   have a4:q<d.az:=by have:(q:Int)<(d.az:Int):=c5 h;omega
   have cJ:q<d.aq.length:=by omega
   obtain⟨gv,fm,fe⟩:=ah.ba.one a4 cJ;obtain⟨k,ae,Jc⟩:=vM q cJ;rw[ae]at fe;have aco:k<(ev (bL g.ds) F t.ns []).length:=by omega
   obtain⟨S4,S5,ph⟩:=ad.rd k aco;have k5:(d.aq.drop q).map (gz (bL g.ds) F t.ns)=gz (bL g.ds) F t.ns k::(d.aq.drop (q+1)).map (gz (bL g.ds) F t.ns):=by rw[fi cJ,ca,ae]
   have l3:(gz (bL g.ds) F t.ns k).1=(ev (bL g.ds) F t.ns [])[k]:=by rw[Q8];simp[bM,aco]
   rw[k5,ke,l3,eb.ack]at eW;refine bA.mk gv q fm rfl a4 ?_;refine aV.mk _ (fe _) ?_;refine bc.whole _ (aN k (by omega) (by omega) cn oD) ?_;rintro v J N -⟨a8,hC⟩;subst J;subst N;refine bA.mk S4 k S5 rfl (by omega) ?_;refine aV.mk _ ((ph.sub λx ad=>.tail _ ad).part (k:=0) (m:=1) (by decide)) ?_;refine a5.mk (λbd=>?_) (λbd=>?_)
   ·have gO:(ev (bL g.ds) F t.ns [])[k].z=false:=by simpa using bd
    rw[gO]at eW;refine⟨_,_,.refl,rfl,?_⟩;rw[eW];rfl
   ·have gO:(ev (bL g.ds) F t.ns [])[k].z=true:=by simpa using bd
    rw[gO]at eW;refine be.mk _ (dc (i:=q) (by omega)) ?_;exact⟨(q+1,cn.marks i (gz (bL g.ds) F t.ns k).2),⟨⟨a4,by rw[eb.Fw];exact oD,eW⟩,by simp only;omega⟩,.refl,zz,.cons rfl (.nil)⟩
  have dM:¬ d.k=4:=dP dM;refine a5.mk (λe=>?_) (λkA=>?_)
  ·have e:d.k=6:=c5 e;have ao3:=S'.one (by omega);have lv:0<d.aq.length:=by omega
   refine a5.mk (λc4=>?_) (λc4=>?_)
   ·have Bz:decide (d.hi=0)=false:=by have By:(!decide (d.hi=0))=true:=c4;simpa using By
    obtain⟨gv,fm,fe⟩:=ah.ba.one (j:=0) (by omega) lv;obtain⟨k,ae,Jc⟩:=vM 0 lv;rw[ae]at fe;have C3:lA (bL g.ds) d (d.aq.map (gz (bL g.ds) F t.ns))=(gz (bL g.ds) F t.ns k).2:=by
     have e0:d.aq=[(k:Int)]:=by
      match ad:d.aq,lv,ao3,ae with
      |[a],_,_,ae=>simp only[tw]at ae;rw[ae]| _::_::_,_,h,_=>simp at h;omega
     rw[lA,fo ck,fo dM,Bz,e0];simp
    rw[C3];refine c2.draw a3 rfl rfl rfl ?_;refine bA.mk gv 0 fm rfl (by omega) ?_;refine aV.mk _ (fe _) ?_;refine bc.whole _ (aN k (by omega) (by omega) s av) ?_;rintro v J N -⟨a8,hC⟩;subst J;subst N;exact⟨_,_,.refl,rfl,rfl⟩
   ·have Bz:decide (d.hi=0)=true:=by have By:(!decide (d.hi=0))=false:=c4;simpa using By
    have C3:lA (bL g.ds) d (d.aq.map (gz (bL g.ds) F t.ns))=[]:=by rw[lA,fo ck,fo dM,iQ e,Bz];rfl
    rw[C3];exact⟨_,_,.refl,rfl,rfl⟩
  have kA:¬ d.k=6:=dP kA;have C3:lA (bL g.ds) d (d.aq.map (gz (bL g.ds) F t.ns))=(d.aq.map (gz (bL g.ds) F t.ns)).flatMap (·.2):=by rw[lA,fo ck,fo dM,fo kA];rfl
  rw[C3];refine dx.inv (ι:=Nat×eb) (λx=>{ bp:=[(1,.val (.slice xa t.n xc)),(3,.val (S8 b1 b6 b7)),(4,.ref 4 0),(21,.val (.slice d.cf d.az d.cx)),(22,.val (.int .i64 d.az)),(23,.val (.int .i64 x.1))],cl:=[(4,t.cells)],cP:=I,da:=kB b6 x.2::M1 }) (λx=>x.1<=d.az/\x.2.m.length=64/\s.marks i ((d.aq.map (gz (bL g.ds) F t.ns)).flatMap (·.2))=x.2.marks i (((d.aq.drop x.1).map (gz (bL g.ds) F t.ns)).flatMap (·.2))) (λx=>d.az-x.1) ?_ ?_;·exact⟨(0,s),⟨dj _,av,rfl⟩,.refl,zz,.cons rfl (.nil)⟩
  rintro⟨q,cn⟩⟨aM,oD,eW⟩;simp only at aM oD eW;refine a5.mk (λh=>?_) (λh=>?_)
  rotate_left
  ·have c8:d.aq.length<=q:=by have:¬ (q:Int)<(d.az:Int):=dP h;omega
   rw[s4 c8]at eW;refine⟨_,_,.refl,rfl,?_⟩;rw[eW];rfl
  have a4:q<d.az:=by have:(q:Int)<(d.az:Int):=c5 h;omega
  have cJ:q<d.aq.length:=by omega
  obtain⟨gv,fm,fe⟩:=ah.ba.one a4 cJ;obtain⟨k,ae,Jc⟩:=vM q cJ;rw[ae]at fe;rw[fi cJ,ca,ae,jf,eb.ack]at eW;refine bA.mk gv q fm rfl a4 ?_;refine aV.mk _ (fe _) ?_;refine bc.whole _ (aN k (by omega) (by omega) cn oD) ?_;rintro v J N -⟨a8,hC⟩;subst J;subst N;refine be.mk _ (dc (i:=q) (by omega)) ?_;exact⟨(q+1,cn.marks i (gz (bL g.ds) F t.ns k).2),⟨⟨a4,by rw[eb.Fw];exact oD,eW⟩,by simp only;omega⟩,.refl,zz,.cons rfl (.nil)⟩
end Go.V
