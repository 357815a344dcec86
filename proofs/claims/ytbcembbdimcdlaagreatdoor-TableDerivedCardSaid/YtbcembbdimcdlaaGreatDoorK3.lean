/- Part 3 of what the proofs of this seat share: the executor, data in memory, walks.
-/
import Derived.Test.YtbcembbdimcdlaaGreatDoorK2
import Derived.Lib.Builder
import Derived.Lib.Bytealg
import Derived.Laws.Pointers
import Derived.Laws.StructEq
import Derived.WideMake
set_option linter.all false
set_option maxHeartbeats 8000000
set_option maxRecDepth 100000
namespace Go.V
open Go
def bw:=@Nat.zero_le
def eR:=@List.getElem?_eq_getElem
def c0:=@decide_eq_false
def fq:=@List.take_of_length_le
def g':=@Int.eq_ofNat_of_zero_le
def fA:=@List.append_assoc
def fr:=@decide_eq_true
def iK:=@List.perm_append_comm
def l3:=@List.getElem?_append_right
def ku:=@List.flatMap_append
def ih:=@List.length_nil
def mA:=@List.map_congr_left
def h7:=@List.map_map
def lA:=@List.getElem_map
def vB:=@List.take_append_drop
def rU:=@List.cons_append
def pg:=@List.sum_cons
def w6:=@List.mem_of_mem_take
def rV:=@List.take_left'
def p4:=@Bool.true_and
def zU:=@List.length_replicate
def zV:=@Int.toNat_of_nonneg
def w7:=@List.cons.injEq
def GQ:=@Int.fdiv_eq_ediv_of_nonneg
def D9:=@MapKept.run_getObj_map
def w8:=@Bool.false_and
def D':=@MapKept.run_checkKey
def Ea:=@MapKept.run_findKey
def GR:=@List.eq_nil_or_concat
def Eb:=@Bool.not_eq_false'
def GS:=@List.length_take_le
def Kq:=@ByteArray.size_append
def Kr:=@Int.ofNat_eq_natCast
def GU:=@BitVec.toNat_and
def GV:=@List.drop_left'
def GW:=@List.all_append
def OF:=@List.reverse_singleton
def OG:=@MapKept.run_setObj_map
def Ks:=@List.all_eq_false
def OH:=@Bool.and_eq_false_iff
def OI:=@List.drop_eq_nil_iff
def Kt:=@List.sum_append
def OJ:=@List.not_mem_nil
def Ku:=@List.sum_nil
variable{t j g c dt e b T k i size:Nat}{P:Program}{w:Bool}{sa:Option Addr}{p1 p v:Value}{x y:Operand}{s:ByteArray}{dh ug:ec}{I:aR}{cs:List Value}{a1:List Int}{d:Int}{os:a5}{α:Type}{F:Fr}{C:d'}{l:List (ByteArray×Int)}
def l4{α:Type}(z:α)(f:aM->(Int->α)->α):List aM->List α->List α
 |[],aZ=>aZ| d::ds,aZ=>l4 z f ds (aZ++[f d λk=>aZ.getD k.toNat z])
section
variable{α:Type}{z:α}{f:aM->(Int->α)->α}
def OK:∀ (ds:List aM) (aZ:List α) (j:Nat),j<aZ.length->(l4 z f ds aZ)[j]?=aZ[j]?
 |[],aZ,j,_=>rfl| d::ds,aZ,j,h=>by rw[l4,OK ds _ j (by simp;omega),pT h]
def VH:∀ (ds:List aM) (aZ:List α) (j:Nat) (h:j<ds.length),(l4 z f ds aZ)[aZ.length+j]?=some (f ds[j] λk=>((l4 z f ds aZ).take (aZ.length+j)).getD k.toNat z)
 |d::ds,aZ,0,_=>by
  rw[l4,oo,OK ds _ aZ.length (by simp)];simp only[List.getElem?_concat_length,vt,kd];congr 1;funext k;have:(l4 z f ds (aZ++[f d λk=>aZ.getD k.toNat z])).take aZ.length=aZ:=by
   apply DW;intro i;rw[lp];split;·rename_i hi;rw[OK ds _ i (by simp;omega),pT hi]
   ·rw[o5 (by omega)]
  rw[this]
 |d::ds,aZ,j+1,h=>by have:=VH ds (aZ++[f d λk=>aZ.getD k.toNat z]) j (by simpa using h);rw[l4];simp only[cP,eQ,ih,dz,J1]at this |-;rw[show aZ.length+(j+1)=aZ.length+1+j from by omega];exact this
def lB(z:α)(f:aM->(Int->α)->α)(ns:List aM)(k:Int):α:=(l4 z f ns []).getD k.toNat z
def yF(aC:∀ d g dH,(∀ k∈d.ax,g k=dH k)->f d g=f d dH){t:bN}(ai:right t=true)(aj:j<t.ns.length):lB z f t.ns j=f t.ns[j] (lB z f t.ns):=by have h:=VH (z:=z) (f:=f) t.ns [] j aj;simp only[ih,dz]at h;unfold lB;rw[cS,show((j:Int).toNat)=j from by omega,h,ib];refine aC _ _ _ λk ae=>?_;have:=mz ai j aj k ae;rw[cS,cS,lp,cG (by omega)]
end
def free(g:Nat->Nat)(s:List Bool):Nat->Nat
 |0=>0| i+1=>free g s i+(bif s.getD i false then 0 else g i)
def VI{g:Nat->Nat}{s:List Bool}{k:Nat}:∀ {i:Nat},i<=k->free g (s.set k true) i=free g s i
 |0,_=>rfl| i+1,h=>by unfold free;rw[VI (by omega)];simp only[cS,o8];rw[ca (by omega)]
def VJ{g:Nat->Nat}{s:List Bool}{k:Nat}(ar:s.getD k false=false)(ap:k<s.length):∀ {i:Nat},k<i->free g (s.set k true) i+g k=free g s i
 |i+1,h=>by
  unfold free;by_cases e:i=k;·subst e;rw[VI (bY _),ar];simp[cS,ap]
  ·have:=VJ (g:=g) ar ap (i:=i) (by omega);simp only[cS,o8]at this |-;rw[ca (by omega)];omega
def gZ(g:Int->Nat)(ks:List Int):Nat:=(ks.map g).sum
def VK{g:Nat->Nat}{i:Nat}:∀ {ks:List Int} {s ct:List Bool},k7 i ks s=some ct->i<=s.length->ct.length=s.length/\free g ct i+gZ (λk=>g k.toNat) ks=free g s i
 |[],s,ct,h,_=>by simp only[k7,kd]at h;subst h;exact⟨rfl,rfl⟩
 |x::ks,s,ct,h,ap=>by
  unfold k7 at h;cases ah:(decide (x<0)||(decide ((i:Int)<=x)||s.getD x.toNat false))with
  |true=>rw[ah]at h;cases h| false=>rw[ah]at h;simp only[o6,ow]at ah;obtain⟨U,aa,af⟩:=ah;obtain⟨az,aF⟩:=VK (g:=g) h (by simpa using ap);have bo:=VJ (g:=g) af (by omega) (i:=i) (by omega);refine⟨by simpa using az,?_⟩;simp only[gZ,dv,pg]at aF |-;omega
def OL{g:Nat->Nat}{c:aM->Nat}:∀ {ds:List aM} {i:Nat} {s ct:List Bool},jB i ds s=some ct->i+ds.length<=s.length->(∀ j (h:j<ds.length),g (i+j)<=c ds[j]+gZ (λk=>g k.toNat) ds[j].ax) -> ct.length=s.length/\free g ct (i+ds.length)<=free g s i+(ds.map c).sum
 |[],i,s,ct,h,_,_=>by simp only[jB,kd]at h;subst h;simp
 |d::ds,i,s,ct,h,ap,aA=>by
  unfold jB at h;cases aC:fits d d.ax.length with
  |false=>rw[aC]at h;cases h
  |true=>
   rw[aC]at h;simp only[bh]at h;cases au:k7 i d.ax s with
   |none=>rw[au]at h;cases h
   |some s1=>
    rw[au]at h;simp only[eQ]at ap;obtain⟨az,aF⟩:=VK (g:=g) au (by omega);obtain⟨bo,dw⟩:=OL (g:=g) (c:=c) h (by omega) (λj aj=>by
     have:=aA (j+1) (by simp;omega);simp only[J1]at this;rw[show i+1+j=i+(j+1)from by omega];exact this)
    have ao:=aA 0 (by simp);simp only[oo,vt]at ao;refine⟨by omega,?_⟩;have gd:free g s1 (i+1)<=free g s1 i+g i:=by
     show free g s1 i+_<=_;cases s1.getD i false<;>simp
    simp only[eQ,dv,pg];rw[show i+(ds.length+1)=i+1+ds.length from by omega];omega
def VL{bF:Int}:∀ {s:List Bool} {i:Nat},rR bF i s=true->∀ j,j<s.length->(i+j:Nat)=bF->s.getD j false=false
 |b::s,i,h,j,aj,e=>by
  unfold rR at h;cases ah:(b == decide ((i:Int)=bF))with
  |true=>rw[ah]at h;cases h
  |false=>
   rw[ah]at h;cases j with
   |zero=>
    have:decide ((i:Int)=bF)=true:=by simpa using e
    rw[this]at ah;simpa using ah
   |succ j=>have:=VL (i:=i+1) h j (by simpa using aj) (by omega);simpa using this
def VM{g:Nat->Nat}{s:List Bool}{k:Nat}(ae:s.getD k false=false):∀ {n:Nat},k<n->g k<=free g s n
 |n+1,h=>by
  unfold free;by_cases e:n=k;·subst e;rw[ae];simp
  ·have:=VM (g:=g) ae (n:=n) (by omega);omega
def OM{t:bN}(ai:right t=true){g:Int->Nat}{c:aM->Nat}(h:∀ j (aj:j<t.ns.length),g j<=c t.ns[j]+gZ g t.ns[j].ax):g t.bF<=(t.ns.map c).sum:=by
 have ha:=yC ai;have ae:=mz ai;unfold right at ai;simp only[cp]at ai;obtain⟨_,_,ai⟩:=ai;split at ai
 ·rename_i s ar;obtain⟨az,aF⟩:=OL (g:=λk=>g k) (c:=c) ar (by simp) (λj aj=>by refine jN (by rw[dz];exact h j aj) (Nat.le_of_eq ?_);congr 1;unfold gZ;congr 1;refine mA λk gq=>?_;have:=ae j aj k gq;rw[zV this.1]);simp only[zU,dz]at az aF;have a9:=VL ai t.bF.toNat (by omega) (by omega);have:=VM (g:=λk=>g k) a9 (n:=t.ns.length) (by omega);rw[zV ha.1]at this;simp only[free]at aF;omega
 ·cases ai
def Ec{t:bN}(ai:right t=true)(aj:j<t.ns.length):fits t.ns[j] t.ns[j].ax.length=true:=by
 have aux:∀ {ds:List aM} {i:Nat} {s ct:List Bool},jB i ds s=some ct->∀ j (h:j<ds.length),fits ds[j] ds[j].ax.length=true:=by
  intro ds
  induction ds with
  |nil=>intro i s ct _ j aj;cases aj
  |cons d ds a7=>
   intro i s ct h j aj;unfold jB at h;cases aC:fits d d.ax.length with
   |false=>rw[aC]at h;cases h
   |true=>
    rw[aC]at h;simp only[bh]at h;cases au:k7 i d.ax s with
    |none=>rw[au]at h;cases h
    |some s1=>
     rw[au]at h;cases j with
     |zero=>exact aC| succ j=>exact a7 h j (by simpa using aj)
 unfold right at ai;simp only[cp]at ai;obtain⟨_,_,ai⟩:=ai;split at ai
 ·rename_i s ar;exact aux ar j aj
 ·cases ai
def afG{w:World}(t u ty e:Nat)(i:TypeInfo)(av:P.underlying t=some (.slice e)){m1:TypeDesc}(hu:P.underlying u=some m1)(p0:∀ k,m1≠.int k)(hi:P.info? e=some i)
 {n:Nat} (oB:n<=c) (ao:(∃ b c,p1=.slice b 0 c)\/p1=.string .empty):(Builtin.append_ #[t,u] ty #[.slice sa n c,p1]).run P w=.ok (.slice sa n c) w:=by
 have GP:(match m1 with | .int _=>true | _=>false)=false:=by cases m1<;>first | rfl | exact(p0 _ rfl).elim
 rcases ao with⟨b,c',rfl⟩ | rfl
 ·cases b<;>cases sa<;>simp[Builtin.append_,run_underlying av,run_underlying hu,sizeOf,typeInfo,hi,GP,Builtin.lenOf,oB,Builtin.firstCells,Builtin.zeroCells,loadCells,loadCellsFrom,storeCells]
 ·cases sa<;>simp[Builtin.append_,run_underlying av,run_underlying hu,sizeOf,typeInfo,hi,GP,Builtin.lenOf,oB,Builtin.firstCells,loadCells,storeCells]
section
variable{X:c7}{β:Nat->Nat}{a:Act}{w:World}{F:Fr}{C:d'}{I:aR}{M:List aI}{o:Oper}{K:gp}
def bs.bin{op:BinOp}(au:o.op=.binOp op t x y dt)(ag:∀ d,o.dst=some d->d<X.n){q:Value}(ab:bG F x=.val p)(aH:bG F y=.val q)
  (aA:∀ w,(eqGuard op t x y p q).run X.P w=.ok () w) (ai:∀ w,eI I M w->(binOp op t p q).run X.P w=.ok v w) (h:K (put o.dst (.val v) F) C I M):bs X o F C I M K:=by
 refine⟨λac w Q ⟨β,a4⟩=>?_⟩;have ex:=dk a4.al ab;have pd:=dk a4.al aH;refine wJ a4 ag (by rw[au];simp) ?_ h;unfold execOp;simp only[au,cy,ex,pd,aA,cc,ai w a4.holds,dc]
def bs.conv{s:Nat}(au:o.op=.convert s t x)(ag:∀ d,o.dst=some d->d<X.n)(ab:bG F x=.val p)
  (ai:∀ w,eI I M w->(convert s t p).run X.P w=.ok v w) (h:K (put o.dst (.val v) F) C I M):bs X o F C I M K:=by
 refine⟨λac w Q ⟨β,a4⟩=>?_⟩;have ex:=dk a4.al ab;refine wJ a4 ag (by rw[au];simp) ?_ h;unfold execOp;simp only[au,cy,ex,cc,ai w a4.holds,dc]
def bs.un{op:UnOp}(au:o.op=.unOp op t x)(ag:∀ d,o.dst=some d->d<X.n)(ab:bG F x=.val p)
  (ai:∀ w,eI I M w->(Op.unary op p).run X.P w=.ok v w) (h:K (put o.dst (.val v) F) C I M):bs X o F C I M K:=by
 refine⟨λac w Q ⟨β,a4⟩=>?_⟩;have ex:=dk a4.al ab;refine wJ a4 ag (by rw[au];simp) ?_ h;unfold execOp;simp only[au,cy,ex,cc,ai w a4.holds,dc]
def jC(x:Int):Int:=IntKind.u64.wrap (BitVec.ofInt 64 IntKind.u64.max ^^^ BitVec.ofInt 64 x).toNat
def bs.GX(au:o.op=.unOp .xor t x)(ag:∀ d,o.dst=some d->d<X.n){n:Int}(ab:bG F x=.val (.int .u64 n))(h:K (put o.dst (.val (.int .u64 (jC n))) F) C I M):bs X o F C I M K:=
 .un au ag ab (λw _=>rfl) h
def bs.ON(aO:c6 X.P X.E){s:Operand}{u:Nat}(au:o.op=.call { callee:=.builtin .append,args:=#[s,x],argTypes:=#[t,u] })(ag:∀ d,o.dst=some d->d<X.n)
 {mq aG:ec} (av:X.E t=some dh) (cL:dh.bO=.slice e) (hu:X.E u=some mq) (fZ:∀ k,mq.bO≠.int k) (he:X.E e=some aG)
 {n:Nat} (ar:bG F s=.val (.slice sa n c)) (oB:n<=c)
 (ab:bG F x=.val p1) (ao:(∃ b c,p1=.slice b 0 c)\/p1=.string .empty)
  (h:K (put o.dst (.val (.slice sa n c)) F) C I M):bs X o F C I M K:=by
 refine⟨λa w Q ⟨β,a4⟩=>?_⟩;obtain⟨inf,z,hi,e9,hz,iA,kj⟩:=(aO _ _ he).inf;obtain⟨d,fy,fz⟩:=(aO _ _ hu).fp;obtain⟨hM,mv,kO⟩:=(aO _ _ av).fp;have qL:hM=.slice e:=by rw[cL]at kO;cases hM<;>simp_all[fo]
 subst qL;have e':=afG (w:=w) t u o.type e inf mv fy (λk bA=>fZ k (by rw[<-fz,bA];rfl)) hi (sa:=sa) oB ao;have es:=dk a4.al ar;have ex:=dk a4.al ab;refine wJ a4 ag (by rw[au];simp) ?_ h;unfold execOp;simp only[au,resolve,invoke,builtin,cy,dc,cc,sP,dv,jh,es,ex,e']
def VN(op:BinOp)(t:Nat)(x y:Operand)(p q:Option Addr)(P:Program)(w:World):(eqGuard op t x y (.pointer p) (.pointer q)).run P w=.ok () w:=by
 unfold eqGuard;cases op<;>rfl
def bs.Kv(aO:c6 X.P X.E)(au:o.op=.binOp .eql t x y dt)(ag:∀ d,o.dst=some d->d<X.n)(av:X.E t=some dh)(cL:dh.bO=.pointer e)
  {p:Option Addr} (ab:bG F x=.val (.pointer p)) (aH:bG F y=.val (.pointer none)) (h:K (put o.dst (.val (.bool p.isNone)) F) C I M):bs X o F C I M K:=by
 obtain⟨d,fy,fz⟩:=(aO _ _ av).fp;have U:d=.pointer e:=by rw[cL]at fz;cases d<;>simp_all[fo]
 subst U;exact .bin au ag ab aH (λw=>VN ..) (λw _=>run_eql_pointer_nil w t p (by simp[Program.pointee,fy])) h
def bs.VO(aO:c6 X.P X.E)(au:o.op=.binOp .neq t x y dt)(ag:∀ d,o.dst=some d->d<X.n){afH:ec}(av:X.E t=some dh)(cL:dh.bO=.pointer e)(he:X.E e=some afH)
  {p:Addr} (ab:bG F x=.val (.pointer (some p))) (aH:bG F y=.val (.pointer (some p))) (h:K (put o.dst (.val (.bool false)) F) C I M):bs X o F C I M K:=by
 obtain⟨d,fy,fz⟩:=(aO _ _ av).fp;have U:d=.pointer e:=by rw[cL]at fz;cases d<;>simp_all[fo]
 subst U;obtain⟨inf,z,hi,_⟩:=(aO _ _ he).inf;exact .bin au ag ab aH (λw=>VN ..) (λw _=>Lib.run_neq_ptr_same w p fy hi) h
end
def VP{f:Nat}{fn:Func}{e:Array Value->Sem Value}{args:List Value}{M:List aI}(aC:P.funcs[f]?=some fn)(Kw:(fn.name == "runtime.NumGoroutine")=false)
  (ah:fn.body.isNone=true) (aw:Extern.findNext fn=none) (he:Extern.find fn=some e) (ai:∀ w,(e args.toArray).run P w=.ok v w):Spec P f args I M λr I' M'=>r=v/\I'=I/\M'=M:=by
 refine .inr λw hw=>⟨v,w,I,M,?_,⟨rfl,rfl,rfl⟩,hw,λ_ _ h=>h,λ_ _ h=>.inl h,λx ab=>.inl ⟨x,ab,rfl⟩,λ_ _ _=>rfl,.refl _,bY _⟩;rw[run_callFunc_extern aC Kw ah aw he,ai];rfl
open Go Go.Proofs
def zW(l:List UInt8):List Value:=l.map λb=>.int .u8 b.toNat
structure gv where
 sV:Bool
 os:a5
 cO:List UInt8
def gv.aL(b:Nat)(x:gv):aI:=⟨b,.cells #[.pointer (bif x.sV then some ⟨b,0,none⟩else none),x.os.val] 206 (0,0)⟩
def gv.M(b:Nat)(x:gv):List aI:=x.aL b::x.os.aL 5
structure gv.ok(x:gv):Prop where
 os:x.os.ok 1 (zW x.cO)
 ne:∀ g,x.os.a=some g->x.cO≠[]
def gv.new:gv:=⟨false,⟨none,0,0,[]⟩,[]⟩
def gv.Kx:gv.new.ok:=⟨⟨rfl,λ_=>⟨rfl,rfl⟩,λg h=>by cases h⟩,λg h=>by cases h⟩
def gv.ok.n{x:gv}(h:x.ok):x.os.n=x.cO.length:=by have:=h.os.len;simp[zW]at this;omega
def ptr(b:Nat):Value:=.pointer (some ⟨b,0,none⟩)
def ew{M:List aI}(a2:(⟨b,.cells cs.toArray T (0,0)⟩:aI)∈M){n:Nat}(h:k+n<=cs.length):cq I M ((⟨b,0,none⟩:Addr).add k) n ((cs.drop k).take n):=by
 rw[eo _ rfl];refine⟨rfl,_,T,(0,0),.inr ⟨_,a2,rfl,rfl⟩,?_,?_⟩
 ·simp
 ·simp;omega
def OO{M:List aI}(v:Value):Spec Tryz.prog 219 [v] I M λr I' M'=>r=v/\I'=I/\M'=M:=
 VP Tryz.func219 (by kernel_rfl) (by kernel_rfl) (by kernel_rfl) (e:=Extern.AbiNoEscape.same) (by kernel_rfl) (λw=>Lib.run_noEscape w _)
def VQ{M:List aI}(s:ByteArray)(c:UInt8):Spec Tryz.prog 303 [.string s,.int .u8 c.toNat] I M λr I' M'=>r=.int .i64 (Lib.indexByte s.data.toList c)/\I'=I/\M'=M:=
 VP Tryz.func303 (by kernel_rfl) (by kernel_rfl) (by kernel_rfl) (e:=Extern.BytealgIndexByte.indexByte) (by kernel_rfl) (λw=>by
  have:=Lib.run_indexByteString (P:=Tryz.prog) s (c.toNat:Int) w;simpa using this)
def afI(s:ByteArray)(c:UInt8):Spec Tryz.prog 289 [.string s,.int .u8 c.toNat] I [] λr I' M'=>r=.int .i64 (Lib.indexByte s.data.toList c)/\I'=I/\M'=[]:=by refine b4 [] aU Tryz.func289 rfl rfl rfl ?_;intro B ao;refine a0.mk [] [] _ (.refl _) (VQ s c) ?_;rintro v I' M' -⟨rfl,rfl,rfl⟩;exact⟨_,_,.refl,rfl,rfl,rfl⟩
def VR(s:ByteArray)(c:UInt8):Spec Tryz.prog 271 [.string s,.int .u8 c.toNat] I [] λr I' M'=>r=.int .i64 (Lib.indexByte s.data.toList c)/\I'=I/\M'=[]:=by refine b4 [] aU Tryz.func271 rfl rfl rfl ?_;intro B ao;refine a0.mk [] [] _ (.refl _) (afI s c) ?_;rintro v I' M' -⟨rfl,rfl,rfl⟩;exact⟨_,_,.refl,rfl,rfl,rfl⟩
def Ky{M:List aI}{w:World}(h:eI I M w){cs:Array Value}{al:Nat×Nat}(a2:(⟨b,.cells cs T al⟩:aI)∈M):w.shape? b=some (T,cs.size):=by have:=h.m _ a2;simp only at this;simp[World.shape?,this]
def VS(b:Nat)(x:gv):Spec Tryz.prog 179 [ptr b] I [x.aL b] λr I' M'=>r=.tuple #[]/\I'=I/\M'=[{ x with sV:=true:gv }.aL b]:=by
 obtain⟨sV,os,cO⟩:=x;obtain⟨inf,z,hi,e9,_⟩:=(aU 206 _ rfl).inf;refine b4 [] aU Tryz.func179 rfl rfl rfl ?_;intro B ao;cases sV with
 |false=>refine aK.mk [.pointer none] (ew (cs:=[.pointer none,os.val]) (k:=0) (n:=1) (T:=206) (gI.2 rfl) (by simp)) ?_;refine .other (bs.Kv aU rfl (by simp) rfl rfl rfl rfl ?_);refine aJ.mk (λ_=>?_) (λh=>by cases h);refine bs.conv rfl (by simp) rfl (λw hw=>Lib.run_to_unsafe (t:=206) (e:=206) (cells:=2) w ⟨b,0,none⟩ (by kernel_rfl) (by kernel_rfl) (j:=inf) hi (by rw[e9];decide) (Ky (cs:=#[.pointer none,os.val]) hw (gI.2 rfl)) (by simp)) ?_;refine a0.mk [gv.aL b ⟨false,os,cO⟩] [] _ (by simp) (OO _) ?_;rintro v I' M' -⟨rfl,rfl,rfl⟩;refine bs.conv rfl (by simp) rfl (λw hw=>Lib.run_from_unsafe (u:=206) (e:=206) (cells:=2) w ⟨b,0,none⟩ (by kernel_rfl) (by kernel_rfl) (j:=inf) hi (Ky (cs:=#[.pointer none,os.val]) hw (gI.2 rfl)) (by kernel_rfl)) ?_;refine cz.add [] [] _ _ rfl (b0 rfl) rfl ?_;exact⟨_,_,.refl,rfl,rfl,rfl⟩
 |true=>refine aK.mk [ptr b] (ew (cs:=[ptr b,os.val]) (k:=0) (n:=1) (T:=206) (gI.2 rfl) (by simp)) ?_;refine .other (bs.Kv aU rfl (by simp) rfl rfl rfl rfl ?_);refine aJ.mk (λh=>by cases h) (λ_=>?_);refine aK.mk [ptr b] (ew (cs:=[ptr b,os.val]) (k:=0) (n:=1) (T:=206) (gI.2 rfl) (by simp)) ?_;refine .other (bs.VO aU rfl (by simp) rfl rfl rfl rfl rfl ?_);refine aJ.mk (λh=>by cases h) (λ_=>?_);exact⟨_,_,.refl,rfl,rfl,rfl⟩
def p5(b:Nat){x:gv}(ab:x.ok)(c:UInt8)(ap:x.cO.length<70368744177664):Spec Tryz.prog 215 [ptr b,.int .u8 c.toNat] I (x.M b)
  λr I' M'=>r=.nilIface/\I'=I/\∃ y:gv,y.ok/\y.cO=x.cO++[c]/\M'=y.M b:=by
 refine b4 [] aU Tryz.func215 rfl rfl rfl ?_;intro B ao;have aw:=ab.n;refine a0.mk [x.aL b] (x.os.aL 5) _ (.refl _) (VS b x) ?_;rintro v I' M' -⟨rfl,rfl,rfl⟩;refine aK.mk [x.os.val] (ew (cs:=[ptr b,x.os.val]) (k:=1) (n:=1) (T:=206) (.head _) (by simp)) ?_;refine cv.mk λg aA Ed=>?_;refine bs.append aU rfl (by simp) (e:=5) rfl rfl rfl x.os (xs:=zW x.cO) ab.os rfl (m:=1) rfl (bU:=[.int .u8 c.toNat]) (by decide) ?_ rfl (Mr:=[⟨g,.cells #[.int .u8 c.toNat] 5 (0,0)⟩,{ x with sV:=true:gv }.aL b]) ?_ ?_ ?_ ?_
 ·exact ew (cs:=[.int .u8 c.toNat]) (k:=0) (n:=1) (T:=5) (.head _) (by simp)
 ·exact iK (l₁:=[_,_]) (l₂:=x.os.aL 5)
 ·simp only[maxLen];omega
 ·show(x.os.n+1)*1<=_;omega
 ·intro dH c' aQ U aa af aP;refine cz.add [⟨dH,.cells aQ.toArray 5 (0,0)⟩,⟨g,.cells #[.int .u8 c.toNat] 5 (0,0)⟩] [] _ _ rfl (b0 rfl) rfl ?_;refine⟨_,_,.perm (M1:=[⟨g,.cells #[.int .u8 c.toNat] 5 (0,0)⟩]++gv.M b ⟨true,⟨some dH,x.os.n+1,c',aQ⟩,x.cO++[c]⟩) ?_ (.sub (mW _ _) .refl),rfl,rfl,_,?_,rfl,rfl⟩
  ·exact iK (l₁:=[_]) (l₂:=[_,_])
  ·refine⟨⟨?_,λh=>by simp at h,?_⟩,by simp⟩
   ·simp[zW,aw]
   ·intro a3 kP;refine⟨U,aa,af,?_⟩;rw[aP];simp[zW]
def vC(b:Nat){x:gv}(ab:x.ok)(s:ByteArray)(ap:x.cO.length+s.size<=70368744177664):Spec Tryz.prog 133 [ptr b,.string s] I (x.M b)
  λr I' M'=>r=.tuple #[.int .i64 s.size,.nilIface]/\I'=I/\∃ y:gv,y.ok/\y.cO=x.cO++s.data.toList/\M'=y.M b:=by
 refine b4 [] aU Tryz.func133 rfl rfl rfl ?_;intro B ao;have aw:=ab.n;refine a0.mk [x.aL b] (x.os.aL 5) _ (.refl _) (VS b x) ?_;rintro v I' M' -⟨rfl,rfl,rfl⟩;refine aK.mk [x.os.val] (ew (cs:=[ptr b,x.os.val]) (k:=1) (n:=1) (T:=206) (.head _) (by simp)) ?_;by_cases ar:s.size=0
 ·have he:s=.empty:=wG (N0 ar);subst he;have oB:x.os.n<=x.os.c:=by
   cases aE:x.os.a with
   |none=>obtain⟨U,aa⟩:=ab.os.nil aE;omega
   |some g=>exact(ab.os.cap g aE).2.1
  refine bs.ON aU rfl (by simp) (e:=5) rfl rfl rfl (by simp) rfl rfl oB rfl (.inr rfl) ?_;refine cz.add [] (x.os.aL 5) _ _ rfl (b0 rfl) rfl ?_;exact⟨_,_,.refl,rfl,rfl,⟨true,x.os,x.cO⟩,⟨ab.os,ab.ne⟩,by simp,rfl⟩
 ·refine bs.afr aU rfl (by simp) (e:=5) rfl rfl rfl rfl rfl rfl x.os (xs:=zW x.cO) ab.os rfl rfl (by omega) (Mr:=[{ x with sV:=true:gv }.aL b]) (iK (l₁:=[_])) ?_ ?_ ?_
  ·simp only[maxLen];omega
  ·show(x.os.n+s.size)*1<=_;omega
  ·intro dH c' aQ U aa af aP;refine cz.add [⟨dH,.cells aQ.toArray 5 (0,0)⟩] [] _ _ rfl (b0 rfl) rfl ?_;refine⟨_,_,.perm (M1:=gv.M b ⟨true,⟨some dH,x.os.n+s.size,c',aQ⟩,x.cO++s.data.toList⟩) ?_ .refl,rfl,rfl,_,?_,rfl,rfl⟩
   ·exact iK (l₁:=[_]) (l₂:=[_])
   ·refine⟨⟨?_,λh=>by simp at h,?_⟩,λg _ h=>?_⟩
    ·simp[zW,aw]
    ·intro a3 kP;refine⟨U,aa,af,?_⟩;rw[aP];simp[zW,lz]
    ·have bq:=congrArg List.length (List.append_eq_nil_iff.1 h).2;exact ar (by simpa using bq)
def yG(b:Nat){x:gv}(ab:x.ok)(ap:x.cO.length<=70368744177664):Spec Tryz.prog 134 [ptr b] I (x.M b)
  λr I' M'=>r=.string ⟨x.cO.toArray⟩/\I'=I/\M'=[]:=by
 refine b4 [] aU Tryz.func134 rfl rfl rfl ?_;intro B ao;have aw:=ab.n;obtain⟨sV,⟨a,n,c,aQ⟩,cO⟩:=x;simp only at aw ap;subst aw;refine c4.draw aU rfl rfl rfl ?_;cases a with
 |none=>obtain⟨U,aa⟩:=ab.os.nil rfl;simp only at U aa;have GY:cO=[]:=iT U;subst GY;subst aa;refine aK.mk [.slice none 0 0] (ew (cs:=[.pointer (bif sV then some ⟨b,0,none⟩else none),.slice none 0 0]) (k:=1) (n:=1) (T:=206) (.head _) (by simp)) ?_;refine aK.mk [.slice none 0 0] (ew (cs:=[.pointer (bif sV then some ⟨b,0,none⟩else none),.slice none 0 0]) (k:=1) (n:=1) (T:=206) (.head _) (by simp)) ?_;refine bs.Ve rfl (by simp) rfl rfl ?_;exact⟨_,_,.sub (fw _) .refl,rfl,rfl,rfl⟩
 |some g=>
  obtain⟨U,aa,af,aP⟩:=ab.os.cap g rfl;have bH:=ab.ne g rfl;simp only at U aa af aP bH;have ki:cO.length≠0:=λh=>bH (iT h);refine aK.mk [.slice (some ⟨g,0,none⟩) cO.length c] (ew (cs:=[.pointer (bif sV then some ⟨b,0,none⟩else none),.slice (some ⟨g,0,none⟩) cO.length c]) (k:=1) (n:=1) (T:=206) (.head _) (by simp)) ?_;refine sF.mk (by omega) ?_;refine aK.mk [.slice (some ⟨g,0,none⟩) cO.length c] (ew (cs:=[.pointer (bif sV then some ⟨b,0,none⟩else none),.slice (some ⟨g,0,none⟩) cO.length c]) (k:=1) (n:=1) (T:=206) (.head _) (by simp)) ?_;refine bs.Ow aU rfl (by simp) (e:=5) rfl rfl rfl rfl (l:=cO) (g:=g) (cs:=aQ.toArray) rfl rfl bH (by omega) (Mr:=[gv.aL b ⟨sV,⟨some g,cO.length,c,aQ⟩,cO⟩]) (iK (l₁:=[_]) (l₂:=[_])) ?_ ?_;·rw[iU]at aP;exact aP
  ·exact⟨_,_,.sub (fw _) .refl,rfl,rfl,rfl⟩
def BX(c:UInt8)(left:ByteArray):Bool:=decide ((32:Int)<=c.toNat)&&(decide ((c.toNat:Int)<=126)&&(!decide ((c.toNat:Int)=92)&&decide (Lib.indexByte left.data.toList c<0)))
def afJ(c:UInt8)(left:ByteArray):Spec Tryz.prog 276 [.int .u8 c.toNat,.string left] I [] λr I' M'=>r=.bool (BX c left)/\I'=I/\M'=[]:=by
 refine b4 [] aU Tryz.func276 rfl rfl rfl ?_;intro B ao;refine b2.mk (λU=>?_) (λU=>?_)
 ·refine b2.mk (λaa=>?_) (λaa=>?_)
  ·refine b2.mk (λaf=>?_) (λaf=>?_)
   ·refine a0.mk [] [] _ (.refl _) (VR left c) ?_;rintro v I' M' -⟨rfl,rfl,rfl⟩;refine⟨_,_,.refl,?_,rfl,rfl⟩;simp only[BX,U,aa,af,p4]
   ·refine⟨_,_,.refl,?_,rfl,rfl⟩;simp only[BX,U,aa,af,p4,rI,w8]
  ·refine⟨_,_,.refl,?_,rfl,rfl⟩;simp only[BX,U,aa,p4,rI,w8]
 ·refine⟨_,_,.refl,?_,rfl,rfl⟩;simp only[BX,U,p4,rI,w8]
def Ee:ByteArray:=⟨#[48,49,50,51,52,53,54,55,56,57,97,98,99,100,101,102]⟩
def zX(n:Nat):UInt8:=Ee.data.toList.getD n 0
def ph(c:UInt8)(left:ByteArray):List UInt8:=
 bif BX c left then [c]else
 bif decide ((c.toNat:Int)=10)then [92,110]else
 bif decide ((c.toNat:Int)=13)then [92,114]else
 bif decide ((c.toNat:Int)=9)then [92,116]else
 bif decide ((c.toNat:Int)=92)||decide ((0:Int)<=Lib.indexByte left.data.toList c)then [92,c]else [92,120,zX (c.toNat/16),zX (c.toNat%16)]
def GZ(c:UInt8)(left:ByteArray):(ph c left).length<=4:=by
 unfold ph;cases BX c left<;>cases decide ((c.toNat:Int)=10)<;>cases decide ((c.toNat:Int)=13)<;>cases decide ((c.toNat:Int)=9)<;>cases(decide ((c.toNat:Int)=92)||decide ((0:Int)<=Lib.indexByte left.data.toList c))<;>simp
def afK:∀ n:Nat,n<256->IntKind.u8.wrap ((BitVec.ofInt 8 (n:Int)) &&& (BitVec.ofInt 8 15)).toNat=((n%16:Nat):Int):=by decide +kernel
def VT(aj:j<Ee.size):Ee[j]=zX j:=by have:j<Ee.data.toList.length:=aj;simp only[zX,cS,eR this,ib];rfl
def Kz(b:Nat){x:gv}(ab:x.ok)(c:UInt8)(left:ByteArray)(ap:x.cO.length<=70368744177600):Spec Tryz.prog 255 [ptr b,.int .u8 c.toNat,.string left] I (x.M b)
  λr I' M'=>I'=I/\∃ y:gv,y.ok/\y.cO=x.cO++ph c left/\M'=y.M b:=by
 refine b4 [] aU Tryz.func255 rfl rfl rfl ?_;intro B ao;refine a0.mk [] (x.M b) _ (.refl _) (afJ c left) ?_;rintro v I' M' -⟨rfl,rfl,rfl⟩;refine aJ.mk (λU=>?_) (λU=>?_)
 ·refine a0.mk (x.M b) [] _ (by simp) (p5 b ab c (by omega)) ?_;rintro v I' M' -⟨rfl,rfl,y,aH,hb,rfl⟩;refine⟨_,_,.refl,rfl,y,aH,?_,by simp⟩;rw[hb,ph,U];rfl
 ·refine aJ.mk (λaa=>?_) (λaa=>?_)
  ·refine a0.mk (x.M b) [] _ (by simp) (vC b ab _ (by show _+2<=_;omega)) ?_;rintro v I' M' -⟨rfl,rfl,y,aH,hb,rfl⟩;refine⟨_,_,.refl,rfl,y,aH,?_,by simp⟩;rw[hb,ph,U,aa];rfl
  ·refine aJ.mk (λaf=>?_) (λaf=>?_)
   ·refine a0.mk (x.M b) [] _ (by simp) (vC b ab _ (by show _+2<=_;omega)) ?_;rintro v I' M' -⟨rfl,rfl,y,aH,hb,rfl⟩;refine⟨_,_,.refl,rfl,y,aH,?_,by simp⟩;rw[hb,ph,U,aa,af];rfl
   ·refine aJ.mk (λaP=>?_) (λaP=>?_)
    ·refine a0.mk (x.M b) [] _ (by simp) (vC b ab _ (by show _+2<=_;omega)) ?_;rintro v I' M' -⟨rfl,rfl,y,aH,hb,rfl⟩;refine⟨_,_,.refl,rfl,y,aH,?_,by simp⟩;rw[hb,ph,U,aa,af,aP];rfl
    ·have two:∀ (dO:aR),(decide ((c.toNat:Int)=92)||decide ((0:Int)<=Lib.indexByte left.data.toList c))=true->ph c left=[92,c]:=λ_ h=>by rw[ph,U,aa,af,aP,h];rfl
     have other:(decide ((c.toNat:Int)=92)||decide ((0:Int)<=Lib.indexByte left.data.toList c))=false->ph c left=[92,120,zX (c.toNat/16),zX (c.toNat%16)]:=λh=>by rw[ph,U,aa,af,aP,h];rfl
     have aN:=c.toNat_lt;refine b2.mk (λbq=>?_) (λbq=>?_)
     ·refine a0.mk [] (x.M b) _ (.refl _) (VR left c) ?_;rintro v I' M' -⟨rfl,rfl,rfl⟩;refine aJ.mk (λbj=>?_) (λbj=>?_)
      ·refine a0.mk (x.M b) [] _ (by simp) (p5 b ab 92 (by omega)) ?_;rintro v I' M' -⟨rfl,rfl,y,aH,hb,rfl⟩;refine a0.mk (y.M b) [] _ (by simp) (p5 b aH c (by rw[hb];simp;omega)) ?_;rintro v I' M' -⟨rfl,rfl,z,a9,uh,rfl⟩;refine⟨_,_,.refl,rfl,z,a9,?_,by simp⟩;rw[uh,hb,two I' (by rw[bq];exact bj)];simp
      ·refine a0.mk (x.M b) [] _ (by simp) (vC b ab _ (by show _+2<=_;omega)) ?_;rintro v I' M' -⟨rfl,rfl,y,aH,hb,rfl⟩;have w9:y.cO.length=x.cO.length+2:=by rw[hb];simp
       refine sG.mk 4 rfl ?_;refine ye.mk (s:=Ee) (c.toNat/16) ?_ (by show _<16;omega) ?_
       ·show(c.toNat:Int).fdiv (2^(min 4 (IntKind.u8.bits)))=_;have afL:((2:Int)^(min 4 IntKind.u8.bits))=16:=by decide
        rw[afL,GQ _ (by omega)];omega
       rw[VT];refine a0.mk (y.M b) [] _ (by simp) (p5 b aH (zX (c.toNat/16)) (by omega)) ?_;rintro v I' M' -⟨rfl,rfl,z,a9,uh,rfl⟩;have KA:z.cO.length=x.cO.length+3:=by rw[uh];simp;omega
       refine ye.mk (s:=Ee) (c.toNat%16) (afK c.toNat aN) (by show _<16;omega) ?_;rw[VT];refine a0.mk (z.M b) [] _ (by simp) (p5 b a9 (zX (c.toNat%16)) (by omega)) ?_;rintro v I' M' -⟨rfl,rfl,u,hu,yH,rfl⟩;refine⟨_,_,.refl,rfl,u,hu,?_,by simp⟩;rw[yH,uh,hb,other (by rw[bq];exact bj)];simp
     ·refine a0.mk (x.M b) [] _ (by simp) (p5 b ab 92 (by omega)) ?_;rintro v I' M' -⟨rfl,rfl,y,aH,hb,rfl⟩;refine a0.mk (y.M b) [] _ (by simp) (p5 b aH c (by rw[hb];simp;omega)) ?_;rintro v I' M' -⟨rfl,rfl,z,a9,uh,rfl⟩;refine⟨_,_,.refl,rfl,z,a9,?_,by simp⟩;rw[uh,hb,two I' (by rw[bq];rfl)];simp
def nM(n:Nat):List UInt8:=bif Nat.blt n 10 then [UInt8.ofNat (48+n)]else [UInt8.ofNat (48+n/10),UInt8.ofNat (48+n%10)]
def zY(n:Nat):ByteArray:=⟨(nM n).toArray⟩
def VU:ByteArray:=⟨((List.range 10).map (λn=>UInt8.ofNat (48+n))++(List.range 26).map (λn=>UInt8.ofNat (97+n))).toArray⟩
def VV:ByteArray:=⟨((List.range 100).flatMap λn=>[UInt8.ofNat (48+n/10),UInt8.ofNat (48+n%10)]).toArray⟩
def afM:∀ n:Fin 10,(VU.extract n.val (n.val+1)).data.toList=nM n.val:=by decide +kernel
def afN:∀ n:Fin 100,10<=n.val->(VV.extract (n.val*2) (n.val*2+2)).data.toList=nM n.val:=by decide +kernel
def Ef{a b:ByteArray}(h:a.data.toList=b.data.toList):a=b:=wG (g2 h)
def G0(n:Nat):(nM n).length<=2:=by
 unfold nM;cases Nat.blt n 10<;>simp
def afO(n:Nat)(aw:n<100):Spec Tryz.prog 260 [.int .i64 n] I [] λr I' M'=>r=.string (zY n)/\I'=I/\M'=[]:=by
 refine b4 [] aU Tryz.func260 rfl rfl rfl ?_;intro B ao;refine aJ.mk (λh=>?_) (λh=>?_)
 ·have aS:n<10:=by simp at h;omega
  refine bc.mk ((n+1:Nat):Int) (by rw[wrap_i64 ⟨by omega,by omega⟩];omega) ?_;refine jO.mk n (n+1) rfl rfl (by omega) (by show _<=36;omega) ?_;refine⟨_,_,.refl,?_,rfl,rfl⟩;have:VU.extract n (n+1)=zY n:=Ef (afM ⟨n,aS⟩);rw[<-this];rfl
 ·have cm:10<=n:=by simp at h;omega
  refine bc.mk ((n*2:Nat):Int) (by rw[wrap_i64 ⟨by omega,by omega⟩];omega) ?_;refine bc.mk ((n*2:Nat):Int) (by rw[wrap_i64 ⟨by omega,by omega⟩];omega) ?_;refine bc.mk ((n*2+2:Nat):Int) (by rw[wrap_i64 ⟨by omega,by omega⟩];omega) ?_;refine jO.mk (n*2) (n*2+2) rfl rfl (by omega) (by show _<=200;omega) ?_;refine⟨_,_,.refl,?_,rfl,rfl⟩;have:VV.extract (n*2) (n*2+2)=zY n:=Ef (afN ⟨n,aw⟩ cm);rw[<-this];rfl
def afP(n:Nat)(aw:n<100):Spec Tryz.prog 237 [.int .i64 n,.int .i64 10] I [] λr I' M'=>r=.string (zY n)/\I'=I/\M'=[]:=by refine b4 [] aU Tryz.func237 rfl rfl rfl ?_;intro B ao;refine aJ.mk (λh=>?_) (λh=>by cases h);refine b2.mk (λh=>?_) (λh=>by simp at h;try omega);refine aJ.mk (λh=>?_) (λh=>by simp at h;try omega);refine a0.mk [] [] _ (.refl _) (afO n aw) ?_;rintro v I' M' -⟨rfl,rfl,rfl⟩;exact⟨_,_,.refl,rfl,rfl,rfl⟩
def afQ(n:Nat)(aw:n<100):Spec Tryz.prog 225 [.int .i64 n] I [] λr I' M'=>r=.string (zY n)/\I'=I/\M'=[]:=by refine b4 [] aU Tryz.func225 rfl rfl rfl ?_;intro B ao;refine a0.mk [] [] _ (.refl _) (afP n aw) ?_;rintro v I' M' -⟨rfl,rfl,rfl⟩;exact⟨_,_,.refl,rfl,rfl,rfl⟩
def afR(n:Nat)(aw:n<100):Spec Tryz.prog 191 [.int .i64 n] I [] λr I' M'=>r=.string (zY n)/\I'=I/\M'=[]:=by refine b4 [] aU Tryz.func191 rfl rfl rfl ?_;intro B ao;refine a0.mk [] [] _ (.refl _) (afQ n aw) ?_;rintro v I' M' -⟨rfl,rfl,rfl⟩;exact⟨_,_,.refl,rfl,rfl,rfl⟩
def KB(n:Nat)(aw:n<100):Spec Tryz.prog 147 [.int .i64 n] I [] λr I' M'=>r=.string (zY n)/\I'=I/\M'=[]:=by refine b4 [] aU Tryz.func147 rfl rfl rfl ?_;intro B ao;refine a0.mk [] [] _ (.refl _) (afR n aw) ?_;rintro v I' M' -⟨rfl,rfl,rfl⟩;exact⟨_,_,.refl,rfl,rfl,rfl⟩
def h8(node xb:Int):Bool:=
 bif decide (node=5)then decide (xb=5)else
 bif decide (node=4)||(decide (node=7)||decide (node=8))then decide (xb=4)||decide (xb=5)else
 bif decide (node=6)then decide (xb=4)||(decide (xb=5)||(decide (xb=6)||(decide (xb=7)||decide (xb=8))))else false
def OP(a b:Int):Spec Tryz.prog 217 [.int .u8 a,.int .u8 b] I [] λr I' M'=>r=.bool (h8 a b)/\I'=I/\M'=[]:=by
 refine b4 [] aU Tryz.func217 rfl rfl rfl ?_;intro B ao;refine aJ.mk (λU=>?_) (λU=>?_)
 ·refine⟨_,_,.refl,?_,rfl,rfl⟩;simp only[h8,U];rfl
 ·have two:∀ (dO:aR) (h:(decide (a=4)||(decide (a=7)||decide (a=8)))=true),h8 a b=(decide (b=4)||decide (b=5)):=λ_ h=>by simp only[h8,U,h];rfl
  have OQ:(decide (a=4)||(decide (a=7)||decide (a=8)))=true->b2 (decide (b=4)) false (wM [] I [] λI' M'=>Value.bool (decide (b=5))=.bool (h8 a b)/\I'=I/\M'=[]) (wM [] I [] λI' M'=>Value.bool true=.bool (h8 a b)/\I'=I/\M'=[]):=λh=>by
   refine b2.mk (λaP=>?_) (λaP=>?_);·refine⟨_,_,.refl,?_,rfl,rfl⟩;rw[two I h,aP];rfl
   ·refine⟨_,_,.refl,?_,rfl,rfl⟩;rw[two I h,aP];rfl
  refine aJ.mk (λaa=>?_) (λaa=>?_);·refine aJ.mk (λ_=>?_) (λh=>by rw[aa]at h;cases h);exact OQ (by rw[aa];rfl)
  ·refine aJ.mk (λaf=>?_) (λaf=>?_)
   ·refine aJ.mk (λ_=>?_) (λh=>by rw[af]at h;cases h);exact OQ (by rw[af];simp)
   ·refine aJ.mk (λaP=>?_) (λaP=>?_)
    ·exact OQ (by rw[aP];simp)
    ·have hw:h8 a b=(bif decide (a=6)then decide (b=4)||(decide (b=5)||(decide (b=6)||(decide (b=7)||decide (b=8))))else false):=by simp only[h8,U,aa,af,aP];rfl
     refine aJ.mk (λbq=>?_) (λbq=>?_)
     ·rw[bq]at hw;simp only[bh]at hw;refine b2.mk (λeJ=>?_) (λeJ=>?_)
      ·refine b2.mk (λcU=>?_) (λcU=>?_)
       ·refine b2.mk (λhs=>?_) (λhs=>?_)
        ·refine b2.mk (λl5=>?_) (λl5=>?_)
         ·refine⟨_,_,.refl,?_,rfl,rfl⟩;rw[hw,eJ,cU,hs,l5];rfl
         ·refine⟨_,_,.refl,?_,rfl,rfl⟩;rw[hw,eJ,cU,hs,l5];rfl
        ·refine⟨_,_,.refl,?_,rfl,rfl⟩;rw[hw,eJ,cU,hs];rfl
       ·refine⟨_,_,.refl,?_,rfl,rfl⟩;rw[hw,eJ,cU];rfl
      ·refine⟨_,_,.refl,?_,rfl,rfl⟩;rw[hw,eJ];rfl
     ·refine⟨_,_,.refl,?_,rfl,rfl⟩;rw[hw,bq];rfl
def wrap_u64(x:Int):gY (IntKind.u64.wrap x):=by unfold IntKind.wrap gY;simp only[IntKind.bits,IntKind.signed];simp;omega
def wrap_u8(x:Int):0<=IntKind.u8.wrap x/\IntKind.u8.wrap x<256:=by unfold IntKind.wrap;simp only[IntKind.bits,IntKind.signed];simp;omega
def VW{x:Int}(h:gY x):IntKind.u64.wrap x=x:=by obtain⟨U,aa⟩:=h;unfold IntKind.wrap;simp only[IntKind.bits,IntKind.signed];simp;omega
def sW(I:aR)(a1:List Int):Prop:=a1.length=64/\(∀ x∈a1,0<=x/\x<256)/\∃ T al,I 4=some (.cells (a1.map (Value.int .u8)).toArray T al)
def sW.rd(h:sW I a1)(M:List aI)(aj:j<64):cq I M (Addr.add ⟨4,0,none⟩ (j*1)) 1 [.int .u8 (a1.getD j 0)]:=by
 obtain⟨ap,_,T,al,h⟩:=h;rw[eo _ rfl];refine⟨rfl,_,T,al,.inl h,?_,rfl⟩;have U:j<(a1.map (Value.int .u8)).length:=by simp[ap,aj]
 have aa:j<a1.length:=by omega
 simp only[dz,iU];rw[e8 U,pU,nH];simp[cS,aa]
def sW.at(h:sW I a1)(j:Nat):0<=a1.getD j 0/\a1.getD j 0<256:=by
 rw[cS];by_cases aj:j<a1.length
 ·rw[eR aj];exact h.2.1 _ (cC aj)
 ·simp[aj]
def G1(x y:Int):Int:=IntKind.u64.wrap (BitVec.ofInt 64 x &&& BitVec.ofInt 64 y).toNat
def ui(x:Int):Int:=IntKind.u64.wrap (G1 x (IntKind.u64.wrap (0-x))*285870213051353865)
def vD(a1:List Int)(x:Int):Int:=bif decide (x=0)then 64 else a1.getD ((ui x).toNat/2^58) 0
def afS(h:sW I a1)(x:Int):0<=vD a1 x/\vD a1 x<256:=by
 unfold vD;cases decide (x=0)
 ·exact h.at _
 ·simp
def afT(ah:sW I a1)(x:Int):Spec Tryz.prog 293 [.int .u64 x] I [] λr I' M'=>r=.int .i64 (vD a1 x)/\I'=I/\M'=[]:=by
 refine b4 [] aU Tryz.func293 rfl rfl rfl ?_;intro B ao;refine aJ.mk (λh=>?_) (λh=>?_)
 ·refine⟨_,_,.refl,?_,rfl,rfl⟩;simp only[vD,h];rfl
 ·have aE:=wrap_u64 (G1 x (IntKind.u64.wrap (0-x))*285870213051353865);refine bc.mk _ rfl ?_;refine bc.mk (ui x) rfl ?_;refine sG.mk 58 rfl ?_;have az:((2:Int)^(min 58 IntKind.u64.bits))=2^58:=by decide
  rw[az];obtain⟨bC,p6⟩:=aE;have aF:(ui x).fdiv (2^58)=(((ui x).toNat/2^58:Nat):Int):=by rw[GQ _ (by decide)];have:ui x=((ui x).toNat:Int):=(zV bC).symm;omega
  rw[aF];have aj:(ui x).toNat/2^58<64:=by have:ui x<18446744073709551616:=p6;omega
  refine ez.mk ((ui x).toNat/2^58) rfl aj ?_;refine aK.mk [.int .u8 (a1.getD ((ui x).toNat/2^58) 0)] (ah.rd _ aj) ?_;have ag:=ah.at ((ui x).toNat/2^58);refine bc.mk (a1.getD ((ui x).toNat/2^58) 0) (wrap_i64 ⟨by omega,by omega⟩) ?_;refine⟨_,_,.refl,?_,rfl,rfl⟩;simp only[vD,h];rfl
def afU(a b c d:Int):Nat->List Value
 |0=>[.int .u64 (a),.int .u64 (b),.int .u64 (c),.int .u64 (d)]| 1=>[.int .u64 (jC a),.int .u64 (b),.int .u64 (c),.int .u64 (d)]| 2=>[.int .u64 (jC a),.int .u64 (jC b),.int .u64 (c),.int .u64 (d)]| 3=>[.int .u64 (jC a),.int .u64 (jC b),.int .u64 (jC c),.int .u64 (d)]| _=>[.int .u64 (jC a),.int .u64 (jC b),.int .u64 (jC c),.int .u64 (jC d)]
def afV(a b c d:Int):Spec Tryz.prog 277 [.agg #[.int .u64 a,.int .u64 b,.int .u64 c,.int .u64 d]] I [] λr I' M'=>r=.agg #[.int .u64 (jC a),.int .u64 (jC b),.int .u64 (jC c),.int .u64 (jC d)]/\I'=I/\M'=[]:=by
 refine b4 [] aU Tryz.func277 rfl rfl rfl ?_;intro B ao;refine dG.inv (ι:=Nat) (λi=>{ bx:=[(1,.ref 1 0),(2,.ref 2 0),(5,.val (.agg #[.int .u64 a,.int .u64 b,.int .u64 c,.int .u64 d])),(6,.val (.int .i64 i))],cl:=[(1,afU a b c d i),(2,[.int .u64 0,.int .u64 0,.int .u64 0,.int .u64 0])],c2:=I }) (λi=>i<=4) (λi=>4-i) ?_ ?_
 ·exact⟨0,by simp,.refl,fO,.cons rfl (.cons rfl .nil)⟩
 ·intro i hi
  match i,hi with
  |0,_=>refine aJ.mk (λ_=>?_) (λh=>by simp at h);refine ez.mk 0 rfl (by decide) ?_;refine bs.GX rfl (by simp) rfl ?_;refine ez.mk 0 rfl (by decide) ?_;refine bc.mk 1 (by decide) ?_;exact⟨1,⟨by simp,by simp⟩,.refl,fO,.cons rfl (.cons rfl .nil)⟩| 1,_=>refine aJ.mk (λ_=>?_) (λh=>by simp at h);refine ez.mk 1 rfl (by decide) ?_;refine bs.GX rfl (by simp) rfl ?_;refine ez.mk 1 rfl (by decide) ?_;refine bc.mk 2 (by decide) ?_;exact⟨2,⟨by simp,by simp⟩,.refl,fO,.cons rfl (.cons rfl .nil)⟩| 2,_=>refine aJ.mk (λ_=>?_) (λh=>by simp at h);refine ez.mk 2 rfl (by decide) ?_;refine bs.GX rfl (by simp) rfl ?_;refine ez.mk 2 rfl (by decide) ?_;refine bc.mk 3 (by decide) ?_;exact⟨3,⟨by simp,by simp⟩,.refl,fO,.cons rfl (.cons rfl .nil)⟩| 3,_=>refine aJ.mk (λ_=>?_) (λh=>by simp at h);refine ez.mk 3 rfl (by decide) ?_;refine bs.GX rfl (by simp) rfl ?_;refine ez.mk 3 rfl (by decide) ?_;refine bc.mk 4 (by decide) ?_;exact⟨4,⟨by simp,by simp⟩,.refl,fO,.cons rfl (.cons rfl .nil)⟩| 4,_=>refine aJ.mk (λh=>by simp at h) (λ_=>?_);exact⟨_,_,.refl,rfl,rfl,rfl⟩
def afW:Spec Tryz.prog 256 [] I [] λr I' M'=>r=.agg #[.int .u64 (jC 0),.int .u64 (jC 0),.int .u64 (jC 0),.int .u64 (jC 0)]/\I'=I/\M'=[]:=by refine b4 [] aU Tryz.func256 rfl rfl rfl ?_;intro B ao;refine a0.mk [] [] _ (.refl _) (afV 0 0 0 0) ?_;rintro v I' M' -⟨rfl,rfl,rfl⟩;exact⟨_,_,.refl,rfl,rfl,rfl⟩
def uj(I:aR)(b:Nat)(o:Obj):ins I b o b=some o:=by simp[ins]
def qP{o:Obj}(ah:I b=none):∀ c p,I c=some p->ins I b o c=some p:=by
 intro c p h;unfold ins;cases e:Nat.beq c b with
 |false=>exact h| true=>have:=cK e;subst this;rw[ah]at h;cases h
def afX{x y:Int}(ab:gY x)(aH:gY y):G1 x y=((x.toNat &&& y.toNat:Nat):Int):=by
 obtain⟨x,rfl⟩:=g' ab.1;obtain⟨y,rfl⟩:=g' aH.1;have U:x<18446744073709551616:=by have:=ab.2;omega
 have aa:y<18446744073709551616:=by have:=aH.2;omega
 have e:∀ z:Nat,z<18446744073709551616->(BitVec.ofInt 64 (z:Int)).toNat=z:=λz a9=>by rw[BitVec.toNat_ofInt];omega
 unfold G1;rw[GU,e x U,e y aa,VW]
 ·simp
 ·have:=Nat.and_le_left (n:=x) (m:=y);exact⟨by omega,by omega⟩
def zZ(x:Int):Int:=G1 x (IntKind.u64.wrap (x-1))
def BY(n:Nat):Nat:=((List.range 64).filter n.testBit).length
def afY(n:Nat):BY n<=64:=by have:=Gs n.testBit (List.range 64);simpa[BY]using this
def afZ{x:Int}(ab:gY x)(ao:x≠0):gY (zZ x)/\BY (zZ x).toNat<BY x.toNat:=by
 obtain⟨n,rfl⟩:=g' ab.1;have U:n<18446744073709551616:=by have:=ab.2;omega
 have ki:0<n:=by omega
 have ar:gY ((n:Int)-1):=⟨by omega,by omega⟩;have e:zZ (n:Int)=((n &&& (n-1):Nat):Int):=by unfold zZ;rw[VW ar,afX ab ar];congr 2;omega
 have bn:n &&& (n-1)<=n-1:=Nat.and_le_right;refine⟨by rw[e];exact⟨by omega,by omega⟩,?_⟩;rw[e];simp only[kH];unfold BY;have hB:List.Sublist ((List.range 64).filter (n &&& (n-1)).testBit) ((List.range 64).filter n.testBit):=by
  have:(List.range 64).filter (n &&& (n-1)).testBit=((List.range 64).filter n.testBit).filter (n-1).testBit:=by rw[List.filter_filter];congr 1;funext i;rw[Nat.testBit_and,Bool.and_comm]
  rw[this];exact List.filter_sublist
 rcases Nat.lt_or_eq_of_le hB.length_le with h | h
 ·exact h
 ·exfalso;have BZ:=hB.eq_of_length h;have:n &&& (n-1)=n:=by
   apply Nat.eq_of_testBit_eq;intro i;by_cases hi:i<64
   ·have hm:i∈(List.range 64).filter (n &&& (n-1)).testBit ↔ i∈(List.range 64).filter n.testBit:=by rw[BZ]
    simp only[yt,kI,hi,true_and]at hm;cases U:(n &&& (n-1)).testBit i<;>cases aa:n.testBit i<;>simp_all
   ·have aa:2^64<=2^i:=Nat.pow_le_pow_right (by omega) (by omega);rw[Nat.testBit_lt_two_pow (by omega),Nat.testBit_lt_two_pow (by omega)]
  omega
def byteOf(a1:List Int)(i:Nat)(w:Int):UInt8:=UInt8.ofNat (IntKind.u8.wrap ((i:Int)*64+vD a1 w)).toNat
def af0(a1:List Int)(i:Nat)(w:Int):((byteOf a1 i w).toNat:Int)=IntKind.u8.wrap ((i:Int)*64+vD a1 w):=by have:=wrap_u8 ((i:Int)*64+vD a1 w);unfold byteOf;rw[UInt8.toNat_ofNat'];omega
def vE(a1:List Int)(i:Nat):Nat->Int->List UInt8
 |0,_=>[]| f+1,w=>bif decide (w=0)then []else byteOf a1 i w::vE a1 i f (zZ w)
def jn(a1:List Int):Nat->List Int->List UInt8
 |_,[]=>[]| i,w::ws=>vE a1 i 64 w++jn a1 (i+1) ws
def VX(a1:List Int)(i:Nat):∀ f w,(vE a1 i f w).length<=f
 |0,_=>by simp[vE]
 |f+1,w=>by
  unfold vE;have:=VX a1 i f (zZ w);cases decide (w=0)<;>simp
  exact this
def OR(a1:List Int):∀ ws i,(jn a1 i ws).length<=64*ws.length
 |[],_=>by simp[jn]
 |w::ws,i=>by have U:=VX a1 i 64 w;have aa:=OR a1 ws (i+1);simp only[jn,cP,eQ];omega
def uk(l:List UInt8):List (List Value):=l.map λc=>[.int .u8 c.toNat]
def Eg(a b c d:Int):List Value:=[.int .u64 a,.int .u64 b,.int .u64 c,.int .u64 d]
def af1(a b c d:Int):Spec Tryz.prog 278 [.agg #[.int .u64 a,.int .u64 b,.int .u64 c,.int .u64 d]] I [] λr I' M'=>∃ g,r=.func (.func 292) #[] #[ptr g]/\I' g=some (.cells (Eg a b c d).toArray 56 (0,0))/\(∀ b o,I b=some o->I' b=some o)/\M'=[]:=by refine b4 [1] aU Tryz.func278 rfl rfl rfl ?_;intro B ao;refine cv.mk λg aA Ed=>?_;exact⟨_,_,.rA rfl (by simp) .refl,g,rfl,uj ..,qP aA,rfl⟩
def af2(B0:sW I a1){a b c:Int}(xd:∀ x∈[a,b,c,d],gY x)(aA:I g=some (.cells (Eg a b c d).toArray 56 (0,0))) :
  Iter Tryz.prog 292 [ptr g] I (uk (jn a1 0 [a,b,c,d])):=by
 intro l R vy z0 er M0 sX lY;refine Gp [] aU Tryz.func292 rfl rfl rfl ?_;intro B ao;have bu:∀ (dO:aR) (M:List aI),(∀ b o,I b=some o->dO b=some o)->cq dO M ⟨g,0,none⟩ 4 (Eg a b c d):=λdO M h=>⟨rfl,_,_,_,.inl (h _ _ aA),rfl,rfl⟩;refine aK.mk _ (bu _ _ sX) ?_;refine dG.inv (ι:=Nat×Nat×aR×List aI) (λx=>{ bx:=[(0,.val (.func (.yield l) #[] #[])),(5,.val (.agg (Eg a b c d).toArray)),(6,.val (.int .i64 x.1))],c2:=x.2.2.1,du:=x.2.2.2 }) (λx=>x.1<=4/\(∀ b o,I b=some o->x.2.2.1 b=some o)/\R x.2.1 x.2.2.1 x.2.2.2/\x.2.1<=(jn a1 0 [a,b,c,d]).length/\(jn a1 0 [a,b,c,d]).drop x.2.1=jn a1 x.1 ([a,b,c,d].drop x.1)) (λx=>4-x.1) ?_ ?_
 ·exact⟨(0,0,er,M0),⟨by simp,sX,lY,by simp,rfl⟩,.refl,f',.nil⟩
 ·rintro⟨i,k,dO,M1⟩⟨hi,dd,nO,ep,iX⟩;simp only at hi dd nO ep iX;refine aJ.mk (λh=>?_) (λh=>?_)
  ·have aS:i<4:=by simp at h;omega
   have b':i < [a,b,c,d].length:=aS;refine ez.mk i rfl aS ?_;have B1:pack false ((((Eg a b c d).toArray).toList.drop (i*1)).take 1)=.int .u64 [a,b,c,d][i]:=by
    match i,aS with
    |0,_=>rfl| 1,_=>rfl| 2,_=>rfl| 3,_=>rfl
   have k8:[a,b,c,d].drop i=[a,b,c,d][i]::[a,b,c,d].drop (i+1):=e8 b';refine dG.inv (ι:=Int×Nat×Nat×aR×List aI) (λx=>{ bx:=[(0,.val (.func (.yield l) #[] #[])),(3,.val (.int .i64 i)),(4,.val (.int .u64 x.1)),(5,.val (.agg (Eg a b c d).toArray)),(6,.val (.int .i64 i))],c2:=x.2.2.2.1,du:=x.2.2.2.2 }) (λx=>gY x.1/\BY x.1.toNat<=x.2.1/\(∀ b o,I b=some o->x.2.2.2.1 b=some o)/\R x.2.2.1 x.2.2.2.1 x.2.2.2.2/\x.2.2.1<=(jn a1 0 [a,b,c,d]).length/\(jn a1 0 [a,b,c,d]).drop x.2.2.1=vE a1 i x.2.1 x.1++jn a1 (i+1) ([a,b,c,d].drop (i+1))) (λx=>BY x.1.toNat) ?_ ?_
   ·refine⟨([a,b,c,d][i],64,k,dO,M1),⟨xd _ (cC b'),afY _,dd,nO,ep,?_⟩,.refl,.cons .refl (.cons .refl (.cons ?_ (yq))),.nil⟩
    ·simp only;rw[iX,k8];rfl
    ·simp only;rw[<-B1];exact .refl
   ·rintro⟨w,f,k,dO,M1⟩⟨hw,aC,dd,nO,ep,iX⟩;simp only at hw aC dd nO ep iX;refine aJ.mk (λh=>?_) (λh=>?_)
    ·have KD:w≠0:=by simpa using h
     obtain⟨gf,eV⟩:=afZ hw KD;obtain⟨f,rfl⟩:∃ B2,f=B2+1:=⟨f-1,by omega⟩;have ah:vE a1 i (f+1) w=byteOf a1 i w::vE a1 i f (zZ w):=by simp[vE,KD]
     rw[ah,rU]at iX;have ae:k<(jn a1 0 [a,b,c,d]).length:=by apply Nat.lt_of_not_le;intro bn;rw[jT bn]at iX;cases iX
     have hN:=e8 ae;rw[iX]at hN;obtain⟨m6,fP⟩:=List.cons.inj hN;have iY:k<(uk (jn a1 0 [a,b,c,d])).length:=by simpa[uk]using ae
     have ak:(uk (jn a1 0 [a,b,c,d]))[k]=[.int .u8 (IntKind.u8.wrap ((i:Int)*64+vD a1 w))]:=by simp only[uk,lA,<-m6,af0]
     have VY:sW dO a1:=by obtain⟨fa,e6,T,al,hC⟩:=B0;exact⟨fa,e6,T,al,dd _ _ hC⟩
     have ar9:=afS VY w;refine bc.mk ((i:Int)*64) (wrap_i64 ⟨by omega,by omega⟩) ?_;refine a0.mk [] M1 _ (.refl _) (afT VY w) ?_;rintro v I' M' -⟨rfl,rfl,rfl⟩;refine bc.mk ((i:Int)*64+vD a1 w) (wrap_i64 ⟨by omega,by omega⟩) ?_;refine bc.mk _ rfl ?_;refine bs.yield rfl (by simp) rfl rfl ?_;have aH:=z0 k iY I' M1 dd nO;rw[ak]at aH;refine Kk.mk M1 [] _ (by simp) aH ?_;rintro v fE ey iL (⟨rfl,rP⟩ | ⟨rfl,ab⟩);·refine aJ.mk (λh=>by simp at h) (λ_=>?_);refine bc.mk _ rfl ?_;exact⟨(zZ w,f,k+1,fE,ey),⟨⟨gf,by simp only;omega,λb o h=>iL b o (dd b o h),rP,ae,fP.symm⟩,by simp only;exact eV⟩,.perm (by simp) .refl,hS,.nil⟩
     ·refine aJ.mk (λ_=>?_) (λh=>by simp at h);exact⟨_,_,.perm (by simp) .refl,.inr ab⟩
    ·have KD:w=0:=by simpa using h
     have gu:IntKind.i64.wrap ((i:Int)+1)=((i+1:Nat):Int):=by rw[wrap_i64 ⟨by omega,by omega⟩];omega
     refine bc.mk _ gu ?_;have ah:vE a1 i f w=[]:=by cases f<;>simp[vE,KD]
     rw[ah,kN]at iX;exact⟨(i+1,k,dO,M1),⟨⟨by simp only;omega,dd,nO,ep,iX⟩,by simp only;omega⟩,.refl,f',.nil⟩
  ·have kj:i=4:=by simp at h;omega
   subst kj;refine⟨_,_,.refl,.inl ?_⟩;have nJ:(jn a1 0 [a,b,c,d]).drop k=[]:=by rw[iX];rfl
   have B3:k=(uk (jn a1 0 [a,b,c,d])).length:=by have:=OI.1 nJ;simp only[uk,cD];omega
   rw[<-B3];exact nO
def vF(l:List (UInt8×UInt8))(b:UInt8):List (UInt8×UInt8):=match l.getLast? with
 |some p=>bif decide ((p.2.toNat:Int)+1=b.toNat)then l.dropLast++[(p.1,b)]else l++[(b,b)]| none=>[(b,b)]
def p7(l:List UInt8):List (UInt8×UInt8):=l.foldl vF []
def kv(p:UInt8×UInt8):List Value:=[.int .u8 p.1.toNat,.int .u8 p.2.toNat]
def p8(l:List (UInt8×UInt8)):List Value:=l.flatMap kv
def KE(l:List (UInt8×UInt8)):(p8 l).length=l.length*2:=fb kv 2 (λ_=>rfl) l
def af3(l:List (UInt8×UInt8))(b:UInt8):(vF l b).length<=l.length+1:=by
 unfold vF;split
 ·rename_i p h;cases decide ((p.2.toNat:Int)+1=b.toNat)<;>simp
 ·simp
def VZ(l:List UInt8):(p7 l).length<=l.length:=by
 have:∀ (l:List UInt8) (aZ:List (UInt8×UInt8)),(l.foldl vF aZ).length<=aZ.length+l.length:=by
  intro l
  induction l with
  |nil=>intro aZ;simp| cons b l a7=>intro aZ;have U:=a7 (vF aZ b);have aa:=af3 aZ b;simp only[pP,eQ];omega
 simpa[p7]using this l []
def z1:((⟨b,0,none⟩:Addr).add i).add j=(⟨b,0,none⟩:Addr).add (i+j):=by rw[eo ⟨_,0,none⟩ rfl i,eo _ rfl j,eo _ rfl (i+j)];simp
def nP{M:List aI}(a2:(⟨b,.cells cs.toArray T (0,0)⟩:aI)∈M)(h:cs[i+j]?=some v):cq I M (((⟨b,0,none⟩:Addr).add i).add j) 1 [v]:=by obtain⟨ap,rfl⟩:=kc.1 h;have:=ew (I:=I) a2 (k:=i+j) (n:=1) (by omega);rw[e8 ap,pU,nH]at this;rw[z1];exact this
def V0(a8:List Value)(u v z:Value)(bd:List Value)(k:Nat)(ae:k=a8.length+1):bK (a8++([u,v]++bd)) k [z]=a8++([u,z]++bd):=by
 subst ae;unfold bK;have az:(a8++([u,v]++bd)).take (a8.length+1)=a8++[u]:=by rw[show a8++([u,v]++bd)=(a8++[u])++(v::bd)from by simp];exact rV (by simp)
 have aF:(a8++([u,v]++bd)).drop (a8.length+1+[z].length)=bd:=by rw[show a8++([u,v]++bd)=(a8++[u,v])++bd from by simp];exact GV (by simp)
 rw[az,aF];simp
def OS{bg:List (UInt8×UInt8)}{x:UInt8}(dp:os.ok 2 (p8 bg)){aQ:List Value}(U:aQ.length=c*2)(aa:os.n+1<=c)(af:c<=maxLen)(aP:aQ.take ((os.n+1)*2)=p8 bg++kv (x,x)) :
  a5.ok ⟨some g,os.n+1,c,aQ⟩ 2 (p8 (bg++[(x,x)])):=by
 have G2:p8 (bg++[(x,x)])=p8 bg++kv (x,x):=by simp[p8]
 have ap:=dp.len;refine⟨?_,(λh=>by cases h),λbW oE=>⟨U,aa,af,by rw[G2];exact aP⟩⟩;rw[G2,cP,ap];simp[kv];omega
def af4(l:List UInt8)(x:UInt8):p7 (l++[x])=vF (p7 l) x:=by simp[p7]
def af5(B0:sW I a1){a b c:Int}(xd:∀ x∈[a,b,c,d],gY x):Spec Tryz.prog 257 [.agg #[.int .u64 a,.int .u64 b,.int .u64 c,.int .u64 d]] I []
  λr I' M'=>(∀ b o,I b=some o->I' b=some o)/\∃ os:a5,r=os.val/\os.ok 2 (p8 (p7 (jn a1 0 [a,b,c,d])))/\M'=os.aL 339:=by
 refine b4 [3] aU Tryz.func257 rfl rfl rfl ?_;intro B ao;refine cv.mk λg aA Ed=>?_;refine a0.mk [] [⟨g,.cells #[.slice none 0 0] 337 (0,0)⟩] _ (.refl _) (af1 a b c d) ?_;rintro v dO M1 -⟨aV,rfl,nQ,dd,rfl⟩;have af6:sW dO a1:=by obtain⟨fa,e6,T,al,hC⟩:=B0;exact⟨fa,e6,T,al,dd _ _ hC⟩
 have cT:=OR a1 [a,b,c,d] 0;refine c4.range aU rfl rfl rfl .refl (af2 af6 xd nQ) (λvs h=>?_) (λk I' M'=>(∀ b o,dO b=some o->I' b=some o)/\∃ os:a5,os.ok 2 (p8 (p7 ((jn a1 0 [a,b,c,d]).take k)))/\M'=⟨g,.cells #[os.val] 337 (0,0)⟩::os.aL 339) (λ_ _ _=>False) ⟨λ_ _ h=>h,⟨none,0,0,[]⟩,⟨rfl,λ_=>⟨rfl,rfl⟩,λg h=>by cases h⟩,rfl⟩ ?_ ?_ (λ_ _ _ _ h=>h.elim)
 ·obtain⟨c,_,rfl⟩:=dC.1 h;rfl
 ·rintro k ae I' M' -⟨rW,os,dp,rfl⟩l B ao jX;have Eh:k<(jn a1 0 [a,b,c,d]).length:=by simpa[uk]using ae
  generalize asa:jn a1 0 [a,b,c,d]=L at *;generalize ab:L[k]=x;have ak:(uk L)[k]=[.int .u8 x.toNat]:=by simp[uk,ab]
  rw[ak];have nK:p7 (L.take (k+1))=vF (p7 (L.take k)) x:=by rw[ho Eh,ab,af4]
  rw[nK];have ek:(p7 (L.take k)).length<=256:=by have U:=VZ (L.take k);have aa:=GS k L;simp only[eQ,ih]at cT;omega
  generalize iJ:p7 (L.take k)=bg at *;have hc:=x.toNat_lt;obtain⟨B4,n,fl,aQ⟩:=os;have aw:bg.length=n:=by have:=dp.len;rw[KE]at this;simp only at this;omega
  cases B4 with
  |none=>
   obtain⟨az,aF⟩:=dp.nil rfl;simp only at az aF;subst az;subst aF;have rT:bg=[]:=iT aw;have oF:vF bg x=bg++[(x,x)]:=by rw[rT];rfl
   refine aK.mk [.slice none 0 0] (ew (cs:=[.slice none 0 0]) (k:=0) (n:=1) (T:=337) (.head _) (by simp)) ?_;refine bc.mk (-1) (by decide) ?_;refine b2.mk (λh=>by simp at h) (λ_=>?_);refine aK.mk [.slice none 0 0] (ew (cs:=[.slice none 0 0]) (k:=0) (n:=1) (T:=337) (.head _) (by simp)) ?_;refine cv.mk λa3 kP V1=>?_;refine bs.append aU rfl (by simp) (e:=339) rfl rfl rfl (⟨none,0,0,aQ⟩:a5) dp rfl (m:=1) rfl (bU:=kv (x,x)) (by decide) (ew (cs:=kv (x,x)) (k:=0) (n:=2) (T:=339) (.head _) (by simp[kv])) rfl (Mr:=[⟨a3,.cells (kv (x,x)).toArray 339 (0,0)⟩,⟨g,.cells #[.slice none 0 0] 337 (0,0)⟩]) (iK (l₁:=[_,_])) (by simp only[maxLen];omega) (by show(_+1)*2<=_;simp only;omega) ?_;intro dH c' kw fa e6 hC k9;refine cz.mk [⟨dH,.cells kw.toArray 339 (0,0)⟩,⟨a3,.cells (kv (x,x)).toArray 339 (0,0)⟩] [] _ _ rfl rfl (b0 rfl) rfl ?_;refine⟨_,_,.perm (M1:=[⟨a3,.cells (kv (x,x)).toArray 339 (0,0)⟩]++(⟨g,.cells #[a5.val ⟨some dH,(⟨none,0,0,aQ⟩:a5).n+1,c',kw⟩] 337 (0,0)⟩::a5.aL ⟨some dH,(⟨none,0,0,aQ⟩:a5).n+1,c',kw⟩ 339)) (iK (l₁:=[_]) (l₂:=[_,_])) (.sub (mW _ _) .refl),rW,⟨some dH,(⟨none,0,0,aQ⟩:a5).n+1,c',kw⟩,?_,rfl⟩;rw[oF];exact OS dp fa e6 hC k9
  |some c5=>
   obtain⟨fF,oB,l0,g0⟩:=dp.cap c5 rfl;simp only at fF oB l0 g0;refine aK.mk [.slice (some ⟨c5,0,none⟩) n fl] (ew (cs:=[.slice (some ⟨c5,0,none⟩) n fl]) (k:=0) (n:=1) (T:=337) (.head _) (by simp)) ?_;refine bc.mk ((n:Int)-1) (wrap_i64 ⟨by omega,by omega⟩) ?_;refine b2.mk (λU=>?_) (λU=>?_)
   ·have ki:1<=n:=by simp at U;omega
    obtain⟨vG,p,rfl⟩:∃ vG p,bg=vG++[p]:=by
     rcases GR bg with h | ⟨r,p,h⟩;·subst h;simp at aw;omega
     ·exact⟨r,p,by simpa using h⟩
    have mu:vG.length=n-1:=by simp at aw;omega
    have iD:(p8 vG).length=(n-1)*2:=by rw[KE,mu]
    obtain⟨bd,nR⟩:∃ bd,aQ=p8 vG++([.int .u8 p.1.toNat,.int .u8 p.2.toNat]++bd):=by refine⟨aQ.drop (n*2),?_⟩;have aa:=vB (n*2) aQ;rw[g0]at aa;rw[<-aa,GV (by rw[KE,aw])];simp[p8,kv]
    have da:aQ[(n-1)*2+1*1]?=some (.int .u8 p.2.toNat):=by rw[nR,<-iD,l3 (by omega)];simp
    have m7:=p.2.toNat_lt;refine aK.mk [.slice (some ⟨c5,0,none⟩) n fl] (ew (cs:=[.slice (some ⟨c5,0,none⟩) n fl]) (k:=0) (n:=1) (T:=337) (.head _) (by simp)) ?_;refine bk.mk ⟨c5,0,none⟩ (n-1) rfl (by omega) (by omega) ?_;refine ez.mk 1 rfl (by decide) ?_;refine aK.mk [.int .u8 p.2.toNat] (nP (b:=c5) (cs:=aQ) (T:=339) (by simp[a5.aL]) da) ?_;refine bc.mk (p.2.toNat:Int) (wrap_i64 ⟨by omega,by omega⟩) ?_;refine bc.mk ((p.2.toNat:Int)+1) (wrap_i64 ⟨by omega,by omega⟩) ?_;refine bc.mk (x.toNat:Int) (wrap_i64 ⟨by omega,by omega⟩) ?_;have oF:vF (vG++[p]) x=bif decide ((p.2.toNat:Int)+1=x.toNat)then vG++[(p.1,x)]else vG++[p]++[(x,x)]:=by simp[vF]
    refine aJ.mk (λaa=>?_) (λaa=>?_)
    ·rw[aa]at oF;refine aK.mk [.slice (some ⟨c5,0,none⟩) n fl] (ew (cs:=[.slice (some ⟨c5,0,none⟩) n fl]) (k:=0) (n:=1) (T:=337) (.head _) (by simp)) ?_;refine bk.mk ⟨c5,0,none⟩ (n-1) rfl (by omega) (by omega) ?_;refine ez.mk 1 rfl (by decide) ?_;rw[z1];refine cz.add [⟨g,.cells #[.slice (some ⟨c5,0,none⟩) n fl] 337 (0,0)⟩] [] aQ.toArray _ rfl ?_ rfl ?_
     ·simp only[vu];show 0+((n-1)*2+1)+1<=_;omega
     ·refine⟨_,_,.refl,rW,⟨some c5,n,fl,bK aQ (0+((n-1)*2+1*1)) [.int .u8 x.toNat]⟩,?_,rfl⟩;have cg:bK aQ (0+((n-1)*2+1*1)) [.int .u8 x.toNat]=p8 vG++([.int .u8 p.1.toNat,.int .u8 x.toNat]++bd):=by rw[nR];exact V0 _ _ _ _ _ _ (by omega)
      rw[oF,cg];have G2:p8 (vG++[(p.1,x)])=p8 vG++[.int .u8 p.1.toNat,.int .u8 x.toNat]:=by simp[p8,kv]
      refine⟨?_,(λh=>by cases h),λbW oE=>⟨?_,oB,l0,?_⟩⟩;·simp only[bh];rw[G2,cP,iD];simp;omega
      ·simp only;rw[<-fF,nR];simp
      ·simp only[bh];rw[G2,<-fA];refine rV ?_;rw[cP,iD];simp;omega
    ·rw[aa]at oF;simp only[bf]at oF;refine aK.mk [.slice (some ⟨c5,0,none⟩) n fl] (ew (cs:=[.slice (some ⟨c5,0,none⟩) n fl]) (k:=0) (n:=1) (T:=337) (.head _) (by simp)) ?_;refine cv.mk λa3 kP V1=>?_;refine bs.append aU rfl (by simp) (e:=339) rfl rfl rfl (⟨some c5,n,fl,aQ⟩:a5) dp rfl (m:=1) rfl (bU:=kv (x,x)) (by decide) (ew (cs:=kv (x,x)) (k:=0) (n:=2) (T:=339) (.head _) (by simp[kv])) rfl (Mr:=[⟨a3,.cells (kv (x,x)).toArray 339 (0,0)⟩,⟨g,.cells #[.slice (some ⟨c5,0,none⟩) n fl] 337 (0,0)⟩]) (iK (l₁:=[_,_])) (by simp only[maxLen];omega) (by show(_+1)*2<=_;simp only;omega) ?_;intro dH c' kw fa e6 hC k9;refine cz.mk [⟨dH,.cells kw.toArray 339 (0,0)⟩,⟨a3,.cells (kv (x,x)).toArray 339 (0,0)⟩] [] _ _ rfl rfl (b0 rfl) rfl ?_;refine⟨_,_,.perm (M1:=[⟨a3,.cells (kv (x,x)).toArray 339 (0,0)⟩]++(⟨g,.cells #[a5.val ⟨some dH,(⟨some c5,n,fl,aQ⟩:a5).n+1,c',kw⟩] 337 (0,0)⟩::a5.aL ⟨some dH,(⟨some c5,n,fl,aQ⟩:a5).n+1,c',kw⟩ 339)) (iK (l₁:=[_]) (l₂:=[_,_])) (.sub (mW _ _) .refl),rW,⟨some dH,(⟨some c5,n,fl,aQ⟩:a5).n+1,c',kw⟩,?_,rfl⟩;rw[oF];exact OS dp fa e6 hC k9
   ·have mu:n=0:=by simp at U;omega
    have rT:bg=[]:=iT (by omega);have oF:vF bg x=bg++[(x,x)]:=by rw[rT];rfl
    refine aK.mk [.slice (some ⟨c5,0,none⟩) n fl] (ew (cs:=[.slice (some ⟨c5,0,none⟩) n fl]) (k:=0) (n:=1) (T:=337) (.head _) (by simp)) ?_;refine cv.mk λa3 kP V1=>?_;refine bs.append aU rfl (by simp) (e:=339) rfl rfl rfl (⟨some c5,n,fl,aQ⟩:a5) dp rfl (m:=1) rfl (bU:=kv (x,x)) (by decide) (ew (cs:=kv (x,x)) (k:=0) (n:=2) (T:=339) (.head _) (by simp[kv])) rfl (Mr:=[⟨a3,.cells (kv (x,x)).toArray 339 (0,0)⟩,⟨g,.cells #[.slice (some ⟨c5,0,none⟩) n fl] 337 (0,0)⟩]) (iK (l₁:=[_,_])) (by simp only[maxLen];omega) (by show(_+1)*2<=_;simp only;omega) ?_;intro dH c' kw fa e6 hC k9;refine cz.mk [⟨dH,.cells kw.toArray 339 (0,0)⟩,⟨a3,.cells (kv (x,x)).toArray 339 (0,0)⟩] [] _ _ rfl rfl (b0 rfl) rfl ?_;refine⟨_,_,.perm (M1:=[⟨a3,.cells (kv (x,x)).toArray 339 (0,0)⟩]++(⟨g,.cells #[a5.val ⟨some dH,(⟨some c5,n,fl,aQ⟩:a5).n+1,c',kw⟩] 337 (0,0)⟩::a5.aL ⟨some dH,(⟨some c5,n,fl,aQ⟩:a5).n+1,c',kw⟩ 339)) (iK (l₁:=[_]) (l₂:=[_,_])) (.sub (mW _ _) .refl),rW,⟨some dH,(⟨some c5,n,fl,aQ⟩:a5).n+1,c',kw⟩,?_,rfl⟩;rw[oF];exact OS dp fa e6 hC k9
 ·rintro I' M' -⟨rW,os,dp,rfl⟩;refine aK.mk [os.val] (ew (cs:=[os.val]) (k:=0) (n:=1) (T:=337) (.head _) (by simp)) ?_;refine⟨_,_,.sub (List.sublist_cons_self _ _) .refl,λb o h=>rW _ _ (dd _ _ h),os,rfl,?_,rfl⟩;have:(jn a1 0 [a,b,c,d]).take (uk (jn a1 0 [a,b,c,d])).length=jn a1 0 [a,b,c,d]:=fq (by simp[uk]);rw[this]at dp;exact dp
def a5.ok.row{M:List aI}{f:α->List Value}(aC:∀ x,(f x).length=size)(ao:0<size){l:List α}(h:os.ok size (l.flatMap f))(a2:∀ x∈os.aL e,x∈M)(aj:j<l.length) :
  ∃ ad,os.a.map (λg=>(⟨g,0,none⟩:Addr))=some ad/\cq I M (ad.add (j*size)) size (f l[j]):=by
 have aw:l.length=os.n:=by have U:=h.len;rw[fb f size aC]at U;exact Nat.eq_of_mul_eq_mul_right ao U
 cases aE:os.a with
 |none=>have:=(h.nil aE).1;omega
 |some g=>
  obtain⟨U,aa,af,aP⟩:=h.cap g aE;refine⟨⟨g,0,none⟩,rfl,?_⟩;have bn:j*size+size<=os.n*size:=by have:=qs size (show j+1<=os.n by omega);rw[ji,oy]at this;exact this
  have fF:os.n*size<=os.aQ.length:=by rw[U];exact qs _ aa
  have:=ew (I:=I) (M:=M) (b:=g) (T:=e) (cs:=os.aQ) (a2 _ (by simp[a5.aL,aE])) (k:=j*size) (n:=size) (by omega);have az:(os.aQ.drop (j*size)).take size=f l[j]:=by rw[<-yB f size aC l j aj,<-aP,yv,vv];congr 1;omega
  rw[az]at this;exact this
def B5:ByteArray:=⟨#[34]⟩
def z2:ByteArray:=⟨#[93,45,94]⟩
def G3(s:ByteArray):List UInt8:=[34]++s.data.toList.flatMap (ph · B5)++[34]
def strOf(l:List UInt8):ByteArray:=⟨l.toArray⟩
def G4{α β:Type}(f:α->List β)(m:Nat)(aC:∀ x,(f x).length<=m):∀ l:List α,(l.flatMap f).length<=m*l.length
 |[]=>by simp
 |x::l=>by have U:=G4 f m aC l;have aa:=aC x;simp only[nG,cP,eQ,Nat.mul_add];omega
def V2(s:ByteArray)(ar:s.size<=1099511627776):Spec Tryz.prog 231 [.string s] I [] λr I' M'=>r=.string (strOf (G3 s))/\I'=I/\M'=[]:=by
 refine b4 [3] aU Tryz.func231 rfl rfl rfl ?_;intro B ao;refine cv.mk λb ah BT=>?_;refine a0.mk (gv.new.M b) [] _ (.refl _) (p5 b gv.Kx 34 (by decide)) ?_;rintro v I' M' -⟨rfl,rfl,wV,fT,B6,rfl⟩;refine dG.inv (ι:=Nat×gv) (λp=>{ bx:=[(0,.val (.string s)),(3,.val (ptr b)),(4,.val (.int .i64 p.1))],c2:=I',du:=p.2.M b }) (λp=>p.1<=s.size/\p.2.ok/\p.2.cO=[34]++(s.data.toList.take p.1).flatMap (ph · B5)) (λp=>s.size-p.1) ?_ ?_
 ·exact⟨(0,wV),⟨by simp,fT,by simp[B6,gv.new]⟩,.perm (by simp) .refl,f',.nil⟩
 ·rintro⟨i,x⟩⟨hi,ab,m8⟩;simp only at hi ab m8;have b3:x.cO.length<=1+4*i:=by rw[m8];have:=G4 (ph · B5) 4 (λc=>GZ c B5) (s.data.toList.take i);have aa:=GS i s.data.toList;simp only[cP,eQ,ih];omega
  refine aJ.mk (λh=>?_) (λh=>?_)
  ·have aS:i<s.size:=by simpa using h
   have b':i<s.data.toList.length:=aS;refine ye.mk i rfl aS ?_;refine a0.mk (x.M b) [] _ (by simp) (Kz b ab s[i] B5 (by omega)) ?_;rintro v I' M' -⟨rfl,y,aH,hb,rfl⟩;have gu:IntKind.i64.wrap ((i:Int)+1)=((i+1:Nat):Int):=by rw[wrap_i64 ⟨by omega,by omega⟩];omega
   refine bc.mk _ gu ?_;refine⟨(i+1,y),⟨⟨by simp only;omega,aH,?_⟩,by simp only;omega⟩,.perm (by simp) .refl,f',.nil⟩;simp only;rw[hb,m8,ho b',ku,fA];congr 1;simp;rfl
  ·have cm:s.size<=i:=by simpa using h
   have ej:s.data.toList.take i=s.data.toList:=fq cm;refine a0.mk (x.M b) [] _ (by simp) (p5 b ab 34 (by omega)) ?_;rintro v I' M' -⟨rfl,rfl,y,aH,hb,rfl⟩;refine a0.mk (y.M b) [] _ (by simp) (yG b aH (by rw[hb];simp;omega)) ?_;rintro v I' M' -⟨rfl,rfl,rfl⟩;refine⟨_,_,.refl,?_,rfl,by simp⟩;rw[hb,m8,ej];rfl
def vH(p:UInt8×UInt8):List UInt8:=
 ph p.1 z2++((bif decide (1<IntKind.u8.wrap ((p.2.toNat:Int)-p.1.toNat))then [45]else [])++(bif !decide ((p.2.toNat:Int)=p.1.toNat)then ph p.2 z2 else []))
def B7(a1:List Int)(a b c d:Int):List UInt8:=
 bif (a == jC 0&&(b == jC 0&&(c == jC 0&&d == jC 0)))then [46]else [91]++(p7 (jn a1 0 [a,b,c,d])).flatMap vH++[93]
def V3(p:UInt8×UInt8):(vH p).length<=9:=by
 have U:=GZ p.1 z2;have aa:=GZ p.2 z2;unfold vH;cases decide (1<IntKind.u8.wrap ((p.2.toNat:Int)-p.1.toNat))<;>cases decide ((p.2.toNat:Int)=p.1.toNat)<;>simp<;>omega
def V4(a1:List Int)(a b c d:Int):(p7 (jn a1 0 [a,b,c,d])).length<=256:=by have U:=OR a1 [a,b,c,d] 0;have aa:=VZ (jn a1 0 [a,b,c,d]);simp only[eQ,ih]at U;omega
def af7(a1:List Int)(a b c d:Int):(B7 a1 a b c d).length<=2306:=by
 have U:=V4 a1 a b c d;have aa:=G4 vH 9 V3 (p7 (jn a1 0 [a,b,c,d]));unfold B7;cases(a == jC 0&&(b == jC 0&&(c == jC 0&&d == jC 0)))
 ·simp only[bf,cP,eQ,ih];omega
 ·simp
def af8(B0:sW I a1){a b c:Int}(xd:∀ x∈[a,b,c,d],gY x):Spec Tryz.prog 232 [.agg #[.int .u64 a,.int .u64 b,.int .u64 c,.int .u64 d]] I []
  λr I' M'=>r=.string (strOf (B7 a1 a b c d))/\(∀ b o,I b=some o->I' b=some o)/\M'=[]:=by
 refine b4 [3] aU Tryz.func232 rfl rfl rfl ?_;intro B ao;refine c4.draw aU rfl rfl rfl ?_;refine g7.mk _ afW ?_;rintro v I' M' -⟨rfl,rfl,rfl⟩;refine fM.Vc aU (e:=54) rfl rfl rfl rfl (by kernel_rfl) ?_;refine aJ.mk (λh=>?_) (λh=>?_)
 ·refine⟨_,_,.refl,?_,λ_ _ h=>h,rfl⟩;simp only[B7,h];rfl
 ·refine cv.mk λg aA Ed=>?_;refine a0.mk (gv.new.M g) [] _ (.refl _) (p5 g gv.Kx 91 (by decide)) ?_;rintro v I' M' -⟨rfl,rfl,wV,fT,B6,rfl⟩;refine a0.mk [] (wV.M g) _ (by simp) (af5 B0 xd) ?_;rintro v dO M1 -⟨dd,os,rfl,dp,rfl⟩;have ek:=V4 a1 a b c d;have fF:B7 a1 a b c d=[91]++(p7 (jn a1 0 [a,b,c,d])).flatMap vH++[93]:=by simp only[B7,h];rfl
  generalize iJ:p7 (jn a1 0 [a,b,c,d])=bg at *;have aw:bg.length=os.n:=by have:=dp.len;rw[KE]at this;omega
  refine dG.inv (ι:=Nat×gv) (λp=>{ bx:=[(3,.val (ptr g)),(11,.val os.val),(12,.val (.int .i64 os.n)),(13,.val (.int .i64 p.1))],c2:=dO,du:=p.2.M g++os.aL 339 }) (λp=>p.1<=os.n/\p.2.ok/\p.2.cO=[91]++(bg.take p.1).flatMap vH) (λp=>os.n-p.1) ?_ ?_;·exact⟨(0,wV),⟨by simp,fT,by simp[B6,gv.new]⟩,.perm (by simpa using iK) .refl,fO,.nil⟩
  ·rintro⟨i,x⟩⟨hi,ab,m8⟩;simp only at hi ab m8;have b3:x.cO.length<=1+9*i:=by rw[m8];have:=G4 vH 9 V3 (bg.take i);have aa:=GS i bg;simp only[cP,eQ,ih];omega
   refine aJ.mk (λh=>?_) (λh=>?_)
   ·have aS:i<os.n:=by simpa using h
    have b':i<bg.length:=by omega
    obtain⟨ad,bP,bu⟩:=a5.ok.row (I:=dO) (M:=x.M g++os.aL 339) (f:=kv) (λ_=>rfl) (by decide) dp (e:=339) (λy aH=>by simp[aH]) b';refine bk.mk ad i bP rfl aS ?_;refine aK.mk _ bu ?_;generalize aD:bg[i]=p;refine ez.mk 0 rfl (by decide) ?_;refine a0.mk (x.M g) (os.aL 339) _ (.refl _) (Kz g ab p.1 z2 (by omega)) ?_;rintro v I' M' -⟨rfl,y,aH,hb,rfl⟩;have w9:y.cO.length<=5+9*i:=by rw[hb,cP];have:=GZ p.1 z2;omega
    refine ez.mk 1 rfl (by decide) ?_;refine ez.mk 0 rfl (by decide) ?_;refine bc.mk _ rfl ?_;refine aJ.mk (λeJ=>?_) (λeJ=>?_)
    ·refine a0.mk (y.M g) (os.aL 339) _ (by simp) (p5 g aH 45 (by omega)) ?_;rintro v I' M' -⟨rfl,rfl,u,hu,yH,rfl⟩;have V5:u.cO.length<=6+9*i:=by rw[yH];simp;omega
     refine ez.mk 1 rfl (by decide) ?_;refine ez.mk 0 rfl (by decide) ?_;refine aJ.mk (λcU=>?_) (λcU=>?_)
     ·refine ez.mk 1 rfl (by decide) ?_;refine a0.mk (u.M g) (os.aL 339) _ (by simp) (Kz g hu p.2 z2 (by omega)) ?_;rintro v I' M' -⟨rfl,z,a9,uh,rfl⟩;have gu:IntKind.i64.wrap ((i:Int)+1)=((i+1:Nat):Int):=by rw[wrap_i64 ⟨by omega,by omega⟩];omega
      refine bc.mk _ gu ?_;refine⟨(i+1,z),⟨⟨by simp only;omega,a9,?_⟩,by simp only;omega⟩,.perm (by simp) .refl,fO,.nil⟩;simp only;rw[uh,yH,hb,m8,ho b',ku,aD];simp[vH,eJ,cU]
     ·have gu:IntKind.i64.wrap ((i:Int)+1)=((i+1:Nat):Int):=by rw[wrap_i64 ⟨by omega,by omega⟩];omega
      refine bc.mk _ gu ?_;refine⟨(i+1,u),⟨⟨by simp only;omega,hu,?_⟩,by simp only;omega⟩,.perm (by simp) .refl,fO,.nil⟩;simp only;rw[yH,hb,m8,ho b',ku,aD];simp[vH,eJ,cU]
    ·refine ez.mk 1 rfl (by decide) ?_;refine ez.mk 0 rfl (by decide) ?_;refine aJ.mk (λcU=>?_) (λcU=>?_)
     ·refine ez.mk 1 rfl (by decide) ?_;refine a0.mk (y.M g) (os.aL 339) _ (by simp) (Kz g aH p.2 z2 (by omega)) ?_;rintro v I' M' -⟨rfl,z,a9,uh,rfl⟩;have gu:IntKind.i64.wrap ((i:Int)+1)=((i+1:Nat):Int):=by rw[wrap_i64 ⟨by omega,by omega⟩];omega
      refine bc.mk _ gu ?_;refine⟨(i+1,z),⟨⟨by simp only;omega,a9,?_⟩,by simp only;omega⟩,.perm (by simp) .refl,fO,.nil⟩;simp only;rw[uh,hb,m8,ho b',ku,aD];simp[vH,eJ,cU]
     ·have gu:IntKind.i64.wrap ((i:Int)+1)=((i+1:Nat):Int):=by rw[wrap_i64 ⟨by omega,by omega⟩];omega
      refine bc.mk _ gu ?_;refine⟨(i+1,y),⟨⟨by simp only;omega,aH,?_⟩,by simp only;omega⟩,.perm (by simp) .refl,fO,.nil⟩;simp only;rw[hb,m8,ho b',ku,aD];simp[vH,eJ,cU]
   ·have cm:os.n<=i:=by simpa using h
    have ej:bg.take i=bg:=fq (by omega);refine a0.mk (x.M g) (os.aL 339) _ (.refl _) (p5 g ab 93 (by omega)) ?_;rintro v I' M' -⟨rfl,rfl,y,aH,hb,rfl⟩;refine a0.mk (y.M g) (os.aL 339) _ (.refl _) (yG g aH (by rw[hb];simp;omega)) ?_;rintro v I' M' -⟨rfl,rfl,rfl⟩;refine⟨_,_,.sub (fw _) .refl,?_,dd,rfl⟩;rw[hb,m8,ej,fF];rfl
structure KF(d:aM):Prop where
 k:d.k<10
 t:d.t.size<=255
 oG:d.k=6->0<=d.lo/\d.lo<=99/\(d.hi=-1\/(d.lo<=d.hi/\d.hi<=99))
def G5{d:aM}{n:Int}(h:fits d n=true):KF d:=by
 unfold fits at h;cases U:decide (10<=d.k)with
 |true=>rw[U]at h;cases h
 |false=>
  rw[U]at h;simp only[bf]at h;have ae:d.k<10:=by simpa using U
  cases aa:(decide (n<uf d.k.toNat)||(decide (0<=p3 d.k.toNat)&&decide (p3 d.k.toNat<n)))with
  |true=>rw[aa]at h;cases h
  |false=>
   rw[aa]at h;simp only[bf]at h;have cJ:d.t=⟨#[]⟩->d.t.size<=255:=λe=>by rw[e];decide
   cases af:decide (d.k=1)with
   |true=>rw[af]at h;simp only[bh,cp,e5]at h;exact⟨ae,cJ h.1,λe=>by simp at af;omega⟩
   |false=>
    rw[af]at h;simp only[bf]at h;cases aP:decide (d.k=2)with
    |true=>rw[aP]at h;simp only[bh,cp,o7,o6,ow]at h;exact⟨ae,by omega,λe=>by simp at aP;omega⟩
    |false=>
     rw[aP]at h;simp only[bf]at h;cases bq:(decide (d.k=3)||decide (d.k=9))with
     |true=>rw[bq]at h;simp only[bh,cp]at h;refine⟨ae,?_,λe=>by simp at bq;omega⟩;have:=h.1;unfold m3 at this;simp only[cp,e5]at this;omega
     |false=>
      rw[bq]at h;simp only[bf]at h;cases bj:decide (d.k=6)with
      |true=>
       rw[bj]at h;simp only[bh,cp,e5,o7,o6,ow,OH]at h;refine⟨ae,cJ h.2.2,λ_=>?_⟩;obtain⟨⟨aV,a3,bW⟩,_⟩:=h;refine⟨by omega,by omega,?_⟩;rcases bW with bW | bW
       ·left
        simpa using bW
       ·right
        omega
      |false=>rw[bj]at h;simp only[bf,cp,e5]at h;exact⟨ae,cJ h.2.1,λe=>by simp at bj;omega⟩
def G6:List Value:=[.int .i64 0,.int .i64 1,.string ⟨#[63]⟩,.int .i64 0,.int .i64 (-1),.string ⟨#[42]⟩,.int .i64 1,.int .i64 (-1),.string ⟨#[43]⟩]
def OT(I:aR):Prop:=∃ T al,I 2=some (.cells G6.toArray T al)
def B8(lo:Nat)(hi:Int):List UInt8:=
 bif decide (hi=lo)then [123]++nM lo++[125]else
 bif decide (hi=-1)then [123]++nM lo++[44,125]else [123]++nM lo++[44]++nM hi.toNat++[125]
def um(lo:Nat)(hi:Int):List UInt8:=
 bif decide ((0:Int)=lo)&&decide (1=hi)then [63]else
 bif decide ((0:Int)=lo)&&decide (-1=hi)then [42]else
 bif decide ((1:Int)=lo)&&decide (-1=hi)then [43]else B8 lo hi
def af9(lo:Nat)(hi:Int):(B8 lo hi).length<=7:=by
 have U:=G0 lo;have aa:=G0 hi.toNat;unfold B8;cases decide (hi=lo)<;>cases decide (hi=-1)<;>simp<;>omega
def aga(lo:Nat)(hi:Int):(um lo hi).length<=7:=by
 have U:=af9 lo hi;unfold um;cases(decide ((0:Int)=lo)&&decide (1=hi))<;>cases(decide ((0:Int)=lo)&&decide (-1=hi))<;>cases(decide ((1:Int)=lo)&&decide (-1=hi))<;>simp<;>omega
def V6(n:Nat):(zY n).size<=2:=G0 n
def qQ(lo hi:Int):aM:=⟨6,0,0,0,0,⟨#[]⟩,lo,hi,none,0,0,[]⟩
def agb{lo:Nat}{hi:Int}(eH:lo<=99)(e1:hi=-1\/((lo:Int)<=hi/\hi<=99)):fits (qQ lo hi) 1=true:=by
 have az:uf 6=1:=by decide
 have aF:p3 6=1:=by decide
 rcases e1 with rfl | ⟨U,aa⟩
 ·simp[fits,qQ,az,aF,aM.oD];exact⟨c0 (by omega),c0 (by omega)⟩
 ·simp[fits,qQ,az,aF,aM.oD];exact⟨c0 (by omega),c0 (by omega),.inr ⟨c0 (by omega),c0 (by omega)⟩⟩
def agc(a b:List UInt8):strOf a++strOf b=strOf (a++b):=by apply Ef;simp[strOf]
def fM.z3{a b:List UInt8}(ar:a.length+b.length<=9223372036854775807){V:Value->Prop}{other:Prop}(h:V (.string (strOf (a++b)))):fM P .add t x y (.val (.string (strOf a))) (.val (.string (strOf b))) V other:=
 fM.concat (a:=strOf a) (b:=strOf b) ar (by rw[agc];exact h)
def agd(aN:pe I)(aD:OT I)(lo:Nat)(hi:Int)(eH:lo<=99)(e1:hi=-1\/((lo:Int)<=hi/\hi<=99)):Spec Tryz.prog 233 [.int .i64 lo,.int .i64 hi] I []
  λr I' M'=>r=.string (strOf (um lo hi))/\I'=I/\M'=[]:=by
 refine b4 [] aU Tryz.func233 rfl rfl rfl ?_;intro B ao;have bb:(qQ lo hi).ok I:=⟨by simp[qQ],by simp[qQ,gY],by simp[qQ,gY],by simp[qQ,gY],by simp[qQ,gY],by show(0:Nat)<=_;omega,⟨by simp only[qQ];omega,by simp only[qQ];omega⟩,⟨by simp only[qQ];omega,by simp only[qQ];omega⟩,⟨rfl,⟨bY _,by simp[qQ]⟩,.inl rfl⟩,by simp[qQ]⟩;refine a0.mk [] [] _ (.refl _) (VA aN bb 1) ?_;rintro v I' M' -⟨rfl,rfl,rfl⟩;rw[agb eH e1];refine aJ.mk (λh=>by cases h) (λ_=>?_);have bu:cq I' ([]++[]) ⟨2,0,none⟩ 9 G6:=by obtain⟨T,al,aD⟩:=aD;exact⟨rfl,_,T,al,.inl aD,rfl,rfl⟩
 refine aK.mk _ bu ?_;refine dG.inv (ι:=Nat) (λi=>{ bx:=[(0,.val (.int .i64 lo)),(1,.val (.int .i64 hi)),(12,.val (.agg G6.toArray)),(13,.val (.int .i64 i))],c2:=I' }) (λi=>i<=3/\(1<=i->(decide ((0:Int)=lo)&&decide (1=hi))=false)/\(2<=i->(decide ((0:Int)=lo)&&decide (-1=hi))=false)/\(3<=i->(decide ((1:Int)=lo)&&decide (-1=hi))=false)) (λi=>3-i) ?_ ?_
 ·exact⟨0,⟨by simp,by simp,by simp,by simp⟩,.refl,fO,.nil⟩
 ·rintro i⟨iA,dY,m2,V7⟩
  match i,iA with
  |0,_=>
   refine aJ.mk (λ_=>?_) (λh=>by simp at h);refine ez.mk 0 rfl (by decide) ?_;have next:(decide ((0:Int)=lo)&&decide (1=hi))=false->(((0+1:Nat)<=3/\(1<=(0+1:Nat)->(decide ((0:Int)=lo)&&decide (1=hi))=false)/\(2<=(0+1:Nat)->(decide ((0:Int)=lo)&&decide (-1=hi))=false)/\(3<=(0+1:Nat)->(decide ((1:Int)=lo)&&decide (-1=hi))=false))/\3-(0+1)<3-0):=λh=>by
    refine⟨⟨by simp,λ_=>?_,λbl=>?_,λbl=>?_⟩,by simp⟩;·exact h
    ·simp at bl
    ·simp at bl
   refine b2.mk (λaV=>?_) (λaV=>?_)
   ·refine aJ.mk (λa3=>?_) (λa3=>?_)
    ·refine⟨_,_,.refl,?_,rfl,rfl⟩;have:um lo hi=[63]:=by unfold um;rw[aV,a3];rfl
     rw[this];rfl
    ·refine bc.mk 1 (by decide) ?_;exact⟨1,next (by rw[aV,a3];rfl),.refl,fO,.nil⟩
   ·refine bc.mk 1 (by decide) ?_;exact⟨1,next (by rw[aV];rfl),.refl,fO,.nil⟩
  |1,_=>
   refine aJ.mk (λ_=>?_) (λh=>by simp at h);refine ez.mk 1 rfl (by decide) ?_;have next:(decide ((0:Int)=lo)&&decide (-1=hi))=false->(((1+1:Nat)<=3/\(1<=(1+1:Nat)->(decide ((0:Int)=lo)&&decide (1=hi))=false)/\(2<=(1+1:Nat)->(decide ((0:Int)=lo)&&decide (-1=hi))=false)/\(3<=(1+1:Nat)->(decide ((1:Int)=lo)&&decide (-1=hi))=false))/\3-(1+1)<3-1):=λh=>by
    refine⟨⟨by simp,λ_=>?_,λbl=>?_,λbl=>?_⟩,by simp⟩;·exact dY (by decide)
    ·exact h
    ·simp at bl
   refine b2.mk (λaV=>?_) (λaV=>?_)
   ·refine aJ.mk (λa3=>?_) (λa3=>?_)
    ·refine⟨_,_,.refl,?_,rfl,rfl⟩;have:um lo hi=[42]:=by unfold um;rw[dY (by decide),aV,a3];rfl
     rw[this];rfl
    ·refine bc.mk 2 (by decide) ?_;exact⟨2,next (by rw[aV,a3];rfl),.refl,fO,.nil⟩
   ·refine bc.mk 2 (by decide) ?_;exact⟨2,next (by rw[aV];rfl),.refl,fO,.nil⟩
  |2,_=>
   refine aJ.mk (λ_=>?_) (λh=>by simp at h);refine ez.mk 2 rfl (by decide) ?_;have next:(decide ((1:Int)=lo)&&decide (-1=hi))=false->(((2+1:Nat)<=3/\(1<=(2+1:Nat)->(decide ((0:Int)=lo)&&decide (1=hi))=false)/\(2<=(2+1:Nat)->(decide ((0:Int)=lo)&&decide (-1=hi))=false)/\(3<=(2+1:Nat)->(decide ((1:Int)=lo)&&decide (-1=hi))=false))/\3-(2+1)<3-2):=λh=>by
    refine⟨⟨by simp,λ_=>?_,λbl=>?_,λbl=>?_⟩,by simp⟩;·exact dY (by decide)
    ·exact m2 (by decide)
    ·exact h
   refine b2.mk (λaV=>?_) (λaV=>?_)
   ·refine aJ.mk (λa3=>?_) (λa3=>?_)
    ·refine⟨_,_,.refl,?_,rfl,rfl⟩;have:um lo hi=[43]:=by unfold um;rw[dY (by decide),m2 (by decide),aV,a3];rfl
     rw[this];rfl
    ·refine bc.mk 3 (by decide) ?_;exact⟨3,next (by rw[aV,a3];rfl),.refl,fO,.nil⟩
   ·refine bc.mk 3 (by decide) ?_;exact⟨3,next (by rw[aV];rfl),.refl,fO,.nil⟩
  |3,_=>
   refine aJ.mk (λh=>by simp at h) (λ_=>?_);have az:=dY (by decide);have aF:=m2 (by decide);have bo:=V7 (by decide);have jz:um lo hi=B8 lo hi:=by unfold um;rw[az,aF,bo];rfl
   rw[jz];have nS:=V6 lo;have Bx:=V6 hi.toNat;have nS:=G0 lo;refine aJ.mk (λh=>?_) (λh=>?_);·refine a0.mk [] [] _ (.refl _) (KB lo (by omega)) ?_;rintro v I' M' -⟨rfl,rfl,rfl⟩;refine fM.z3 (a:=[123]) (b:=nM lo) (by simp;omega) ?_;refine fM.z3 (a:=[123]++nM lo) (b:=[125]) (by simp;omega) ?_;refine⟨_,_,.refl,?_,rfl,rfl⟩;rw[B8,h];rfl
   ·refine aJ.mk (λk=>?_) (λk=>?_)
    ·refine a0.mk [] [] _ (.refl _) (KB lo (by omega)) ?_;rintro v I' M' -⟨rfl,rfl,rfl⟩;refine fM.z3 (a:=[123]) (b:=nM lo) (by simp;omega) ?_;refine fM.z3 (a:=[123]++nM lo) (b:=[44,125]) (by simp;omega) ?_;refine⟨_,_,.refl,?_,rfl,rfl⟩;rw[B8,h,k];rfl
    ·refine a0.mk [] [] _ (.refl _) (KB lo (by omega)) ?_;rintro v I' M' -⟨rfl,rfl,rfl⟩;have ae:hi≠-1:=by simpa using k
     obtain⟨aw,rfl⟩:=g' (show 0<=hi by omega);have Bx:=G0 aw;refine fM.z3 (a:=[123]) (b:=nM lo) (by simp;omega) ?_;refine fM.z3 (a:=[123]++nM lo) (b:=[44]) (by simp;omega) ?_;refine a0.mk [] [] _ (.refl _) (KB aw (by omega)) ?_;rintro v I' M' -⟨rfl,rfl,rfl⟩;refine fM.z3 (a:=[123]++nM lo++[44]) (b:=nM aw) (by simp;omega) ?_;refine fM.z3 (a:=[123]++nM lo++[44]++nM aw) (b:=[125]) (by simp;omega) ?_;refine⟨_,_,.refl,?_,rfl,rfl⟩;rw[B8,h,k];rfl
def vI:List (List UInt8):=[[],[],[],[],[],[],[],[],[],[],[],[],[],[32],[],[],[32,47,32],[],[],[],[],[38],[],[],[33],[],[],[60],[],[62]]
def sY(j:Nat):List UInt8:=vI.getD j []
def G7(I:aR):Prop:=∃ T al,I 1=some (.cells (vI.map λl=>Value.string (strOf l)).toArray T al)
def G7.rd(h:G7 I)(M:List aI)(aj:i+j<30):cq I M ((Addr.add ⟨1,0,none⟩ i).add j) 1 [.string (strOf (sY (i+j)))]:=by
 obtain⟨T,al,h⟩:=h;rw[z1,eo _ rfl];refine⟨rfl,_,T,al,.inl h,?_,rfl⟩;have U:i+j<(vI.map λl=>Value.string (strOf l)).length:=by simp[vI];omega
 have aa:i+j<vI.length:=by simp[vI];omega
 simp only[dz];rw[e8 U,pU,nH];simp[sY,cS,aa]
def G8(j:Nat):(sY j).length<=3:=by
 by_cases h:j<30
 ·have:∀ j:Fin 30,(sY j.val).length<=3:=by decide
  exact this ⟨j,h⟩
 ·have:vI.length<=j:=by simp[vI];omega
  simp[sY,cS,this]
def sZ(a1:List Int)(d:aM):List UInt8:=
 bif decide (d.k=0)||decide (d.k=2)then G3 d.t else
 bif decide (d.k=1)then B7 a1 d.eO d.s1 d.s2 d.eU else
 bif decide (d.k=3)then d.t.data.toList else
 bif decide (d.k=9)then sY 27++d.t.data.toList++[58,32]else sY (d.k.toNat*3)
def qR(d:aM):List UInt8:=bif decide (d.k=6)then um d.lo.toNat d.hi else sY (d.k.toNat*3+2)
def age(s:ByteArray):strOf s.data.toList=s:=Ef (by simp[strOf])
def OU(aN:pe I)(aD:OT I)(KG:G7 I){d:aM}(ag:d.ok I)(aC:KF d):Spec Tryz.prog 218 [d.val] I [] λr I' M'=>r=.string (strOf (qR d))/\I'=I/\M'=[]:=by
 refine b4 [] aU Tryz.func218 rfl rfl rfl ?_;intro B ao;refine aJ.mk (λh=>?_) (λh=>?_)
 ·obtain⟨aV,a3,bW⟩:=aC.oG (by simpa using h);have az:d.lo=((d.lo.toNat:Nat):Int):=by omega
  have mo:=agd aN aD d.lo.toNat d.hi (by omega) (by omega);rw[<-az]at mo;refine a0.mk [] [] _ (.refl _) mo ?_;rintro v I' M' -⟨rfl,rfl,rfl⟩;refine⟨_,_,.refl,?_,rfl,rfl⟩;simp only[qR,h];rfl
 ·have ae:=ag.k;have m6:=aC.k;refine ez.mk d.k.toNat (by omega) (by omega) ?_;refine aK.mk _ (KG.rd _ (by show d.k.toNat*3+2<30;omega)) ?_;refine⟨_,_,.refl,?_,rfl,rfl⟩;simp only[qR,h];rfl
def V8(B0:sW I a1)(KG:G7 I){d:aM}(ag:d.ok I)(aC:KF d):Spec Tryz.prog 216 [d.val] I []
  λr I' M'=>r=.string (strOf (sZ a1 d))/\(∀ b o,I b=some o->I' b=some o)/\M'=[]:=by
 refine b4 [] aU Tryz.func216 rfl rfl rfl ?_;intro B ao;have ae:=ag.k;have m6:=aC.k;have av:=aC.t;have lit:(decide (d.k=0)||decide (d.k=2))=true->sZ a1 d=G3 d.t:=λh=>by simp only[sZ,h];rfl
 refine aJ.mk (λU=>?_) (λU=>?_)
 ·refine aJ.mk (λ_=>?_) (λh=>by rw[U]at h;cases h);refine a0.mk [] [] _ (.refl _) (V2 d.t (by omega)) ?_;rintro v I' M' -⟨rfl,rfl,rfl⟩;refine⟨_,_,.refl,?_,λ_ _ h=>h,rfl⟩;rw[lit (by rw[U];rfl)]
 ·refine aJ.mk (λaa=>?_) (λaa=>?_)
  ·refine a0.mk [] [] _ (.refl _) (V2 d.t (by omega)) ?_;rintro v I' M' -⟨rfl,rfl,rfl⟩;refine⟨_,_,.refl,?_,λ_ _ h=>h,rfl⟩;rw[lit (by rw[aa];simp)]
  ·refine aJ.mk (λaf=>?_) (λaf=>?_)
   ·refine a0.mk [] [] _ (.refl _) (af8 B0 (a:=d.eO) (b:=d.s1) (c:=d.s2) (d:=d.eU) (λx ab=>by
     simp only[eL,OJ,or_false]at ab;rcases ab with rfl | rfl | rfl | rfl;·exact ag.eO
     ·exact ag.s1
     ·exact ag.s2
     ·exact ag.eU)) ?_
    rintro v I' M' -⟨rfl,bL,rfl⟩;refine⟨_,_,.refl,?_,bL,rfl⟩;simp only[sZ,U,aa,af];rfl
   ·refine aJ.mk (λaP=>?_) (λaP=>?_)
    ·refine⟨_,_,.refl,?_,λ_ _ h=>h,rfl⟩;simp only[sZ,U,aa,af,aP];rw[<-age d.t];rfl
    ·refine aJ.mk (λbq=>?_) (λbq=>?_)
     ·have B9:d.k=9:=by simpa using bq
      refine c4.draw aU rfl rfl rfl ?_;refine ez.mk 9 B9 (by decide) ?_;refine aK.mk _ (KG.rd _ (by decide)) ?_;have gj:(strOf (sY 27)).size=1:=by decide
      refine fM.concat (a:=strOf (sY 27)) (b:=d.t) (by omega) ?_;refine fM.concat (a:=strOf (sY 27)++d.t) (b:=strOf [58,32]) (by rw[Kq];show _+2<=_;omega) ?_;refine⟨_,_,.refl,?_,λ_ _ h=>h,rfl⟩;simp only[sZ,U,aa,af,aP,bq];refine congrArg Value.string (Ef ?_);simp[strOf]
     ·refine ez.mk d.k.toNat (by omega) (by omega) ?_;refine aK.mk _ (KG.rd _ (by show d.k.toNat*3+0<30;omega)) ?_;refine⟨_,_,.refl,?_,λ_ _ h=>h,rfl⟩;simp only[sZ,U,aa,af,aP,bq];rfl
def pi(ns:List aM)(k:Int):Int:=(ns.map (·.k)).getD k.toNat 0
def paren(w:Bool)(s:List UInt8):List UInt8:=(bif w then [40]else [])++(s++(bif w then [41]else []))
def xe(sep:List UInt8)(f:Int->List UInt8):Bool->List Int->List UInt8
 |_,[]=>[]| b,k::ks=>(bif b then sep else [])++(f k++xe sep f true ks)
def G9(d:aM):List UInt8:=sY (d.k.toNat*3+1)
def G'(a1:List Int)(ns:List aM)(d:aM)(g:Int->List UInt8):List UInt8:=
 sZ a1 d++(xe (G9 d) (λk=>paren (h8 d.k (pi ns k)) (g k)) false d.ax++qR d)
def nT(a1:List Int)(ns:List aM):Int->List UInt8:=lB [] (G' a1 ns) ns
def rX(a1:List Int)(t:bN):List UInt8:=bif right t then nT a1 t.ns t.bF else []
def V9{sep:List UInt8}{f g:Int->List UInt8}:∀ {ks:List Int} {b:Bool},(∀ k∈ks,f k=g k)->xe sep f b ks=xe sep g b ks
 |[],b,_=>rfl| k::ks,b,h=>by unfold xe;rw[h k (by simp),V9 λx ab=>h x (by simp[ab])]
def V'{t:bN}(ai:right t=true)(aj:j<t.ns.length):nT a1 t.ns j=G' a1 t.ns t.ns[j] (nT a1 t.ns):=by refine yF (λd g dH h=>?_) ai aj;unfold G';rw[V9 λk ae=>by rw[h k ae]]
def agf(w:Bool)(s:List UInt8):(paren w s).length<=s.length+2:=by cases w<;>simp[paren]
def Wa{sep:List UInt8}{f:Int->List UInt8}(ar:sep.length<=3){g:Int->Nat}(aC:∀ k,(f k).length+3<=g k):∀ {ks:List Int} {b:Bool},(xe sep f b ks).length<=gZ g ks
 |[],b=>by simp[xe,gZ]
 |k::ks,b=>by
  have U:=Wa ar aC (ks:=ks) (b:=true);have aa:=aC k;unfold xe;simp only[cP,gZ,dv,pg]at U |-;cases b<;>simp<;>omega
def OV(a1:List Int){d:aM}(aC:KF d):(sZ a1 d).length<=2400:=by
 have U:(G3 d.t).length<=2+4*d.t.size:=by have:=G4 (ph · B5) 4 (λc=>GZ c B5) d.t.data.toList;have aa:d.t.data.toList.length=d.t.size:=rfl;simp only[G3,cP,eQ,ih];omega
 have aa:=af7 a1 d.eO d.s1 d.s2 d.eU;have af:=aC.t;have aP:=G8 27;have bq:=G8 (d.k.toNat*3);have bj:d.t.data.toList.length=d.t.size:=rfl;unfold sZ;cases(decide (d.k=0)||decide (d.k=2))<;>cases decide (d.k=1)<;>cases decide (d.k=3)<;>cases decide (d.k=9)<;>simp only[bh,bf,cP,eQ,ih]<;>omega
def KH(d:aM):(qR d).length<=7:=by
 have U:=aga d.lo.toNat d.hi;have aa:=G8 (d.k.toNat*3+2);unfold qR;cases decide (d.k=6)<;>simp only[bh,bf]<;>omega
def KI{α:Type}(c:Nat):∀ l:List α,(l.map λ_=>c).sum=c*l.length
 |[]=>by simp
 |x::l=>by rw[dv,pg,KI c l,eQ,Nat.mul_add];omega
def Wb{t:bN}(ai:right t=true):(nT a1 t.ns t.bF).length+5<=2412*t.ns.length:=by
 have h:=OM ai (g:=λk=>(nT a1 t.ns k).length+5) (c:=λ_=>2412) λj aj=>by rw[V' ai aj];have U:=OV a1 (G5 (Ec ai aj));have aa:=KH t.ns[j];have af:=Wa (sep:=G9 t.ns[j]) (G8 _) (f:=λk=>paren (h8 t.ns[j].k (pi t.ns k)) (nT a1 t.ns k)) (g:=λk=>(nT a1 t.ns k).length+5) (λk=>by have:=agf (h8 t.ns[j].k (pi t.ns k)) (nT a1 t.ns k);omega) (ks:=t.ns[j].ax) (b:=false);unfold G';simp only[cP];omega
 rw[KI]at h;exact h
def Wc(a1:List Int)(t:bN):(rX a1 t).length<=2412*t.ns.length:=by
 unfold rX;cases ai:right t with
 |false=>simp| true=>have:=Wb (a1:=a1) ai;simp only[bh];omega
abbrev Open:=Nat×Nat×Bool
def nU(e:Open):List Value:=[.int .i64 e.1,.int .i64 e.2.1,.bool e.2.2]
def nodeAt(ns:List aM)(j:Nat):aM:=ns.getD j ⟨0,0,0,0,0,.empty,0,0,none,0,0,[]⟩
def OW(a1:List Int)(ns:List aM)(d:aM)(k:Int):List UInt8:=paren (h8 d.k (pi ns k)) (nT a1 ns k)
def pj(a1:List Int)(ns:List aM)(e:Open):List UInt8:=bif decide ((e.2.1:Int)=0)then(bif e.2.2 then [40]else [])++sZ a1 (nodeAt ns e.1)else []
def vJ(a1:List Int)(ns:List aM)(e:Open):List UInt8:=
 pj a1 ns e++(xe (G9 (nodeAt ns e.1)) (OW a1 ns (nodeAt ns e.1)) (decide (0<(e.2.1:Int))) ((nodeAt ns e.1).ax.drop e.2.1)++(qR (nodeAt ns e.1)++(bif e.2.2 then [41]else [])))
def z4(ns:List aM):Int->Nat:=lB 0 (λd g=>2+gZ g d.ax) ns
def oH(ns:List aM)(e:Open):Nat:=1+gZ (z4 ns) ((nodeAt ns e.1).ax.drop e.2.1)
def xf(ns:List aM)(aB:List Open):Nat:=(aB.map (oH ns)).sum
def vK(a1:List Int)(ns:List aM)(aB:List Open):List UInt8:=aB.reverse.flatMap (vJ a1 ns)
def B'(a1:List Int)(ns:List aM)(aB:List Open)(e:Open):vK a1 ns (aB++[e])=vJ a1 ns e++vK a1 ns aB:=by simp[vK]
def s0(ns:List aM)(aB:List Open)(e:Open):xf ns (aB++[e])=xf ns aB+oH ns e:=by simp[xf]
def Wd(ns:List aM):∀ aB:List Open,aB.length<=xf ns aB
 |[]=>by simp
 |e::aB=>by have:=Wd ns aB;simp only[xf,dv,pg,eQ,oH]at this |-;omega
def ij{ns:List aM}(h:j<ns.length):nodeAt ns j=ns[j]:=by simp[nodeAt,cS,h]
def We{g dH:Int->Nat}{ks:List Int}(h:∀ k∈ks,g k=dH k):gZ g ks=gZ dH ks:=by unfold gZ;rw[mA h]
def Wf{t:bN}(ai:right t=true)(aj:j<t.ns.length):z4 t.ns j=2+gZ (z4 t.ns) t.ns[j].ax:=
 yF (λd g dH h=>by rw[We h]) ai aj
def agh{t:bN}(ai:right t=true):z4 t.ns t.bF<=2*t.ns.length:=by
 have:=OM ai (g:=z4 t.ns) (c:=λ_=>2) λj aj=>by rw[Wf ai aj];exact bY _
 rwa [KI]at this
def Wg{t:bN}(ai:right t=true)(aj:j<t.ns.length)(w:Bool):vJ a1 t.ns (j,0,w)=paren w (nT a1 t.ns j):=by rw[V' ai aj];simp only[vJ,pj,ij aj];cases w<;>simp[paren,G',OW]<;>rfl
def Wh{t:bN}(ai:right t=true)(aj:j<t.ns.length)(w:Bool):oH t.ns (j,0,w)+1=z4 t.ns j:=by rw[Wf ai aj];simp[oH,ij aj];omega
def OX{t:bN}(ai:right t=true)(aj:j<t.ns.length)(hi:i<t.ns[j].ax.length) :
  vJ a1 t.ns (j,i,w)=pj a1 t.ns (j,i,w)++((bif decide (0<(i:Int))then G9 t.ns[j]else [])++(vJ a1 t.ns (t.ns[j].ax[i].toNat,0,h8 t.ns[j].k (pi t.ns t.ns[j].ax[i]))++vJ a1 t.ns (j,i+1,w))):=by
 have ae:=mz ai j aj _ (cC hi);rw[Wg ai (by omega)];have az:(((t.ns[j].ax[i].toNat:Nat):Int))=t.ns[j].ax[i]:=zV ae.1;rw[az];have ag:=e8 hi;simp only[vJ,ij aj];rw[ag];have aF:pj a1 t.ns (j,i+1,w)=[]:=by have:decide (((i+1:Nat):Int)=0)=false:=c0 (by omega);simp only[pj,this,bf]
 have bo:decide (0<((i+1:Nat):Int))=true:=fr (by omega);rw[aF,bo];simp only[xe,OW,fA,kN]
def OY{t:bN}(ai:right t=true)(aj:j<t.ns.length){w':Bool}(hi:i<t.ns[j].ax.length):oH t.ns (j,i+1,w)+oH t.ns (t.ns[j].ax[i].toNat,0,w')+1=oH t.ns (j,i,w):=by
 have ae:=mz ai j aj _ (cC hi);have U:=Wh ai (j:=t.ns[j].ax[i].toNat) (by omega) w';have az:(((t.ns[j].ax[i].toNat:Nat):Int))=t.ns[j].ax[i]:=zV ae.1;rw[az]at U;have ag:=e8 hi;have bo:oH t.ns (j,i,w)=1+gZ (z4 t.ns) (t.ns[j].ax.drop i):=by simp[oH,ij aj]
 have dw:oH t.ns (j,i+1,w)=1+gZ (z4 t.ns) (t.ns[j].ax.drop (i+1)):=by simp[oH,ij aj]
 rw[bo,dw,ag];simp only[gZ,dv,pg];omega
def OZ{t:bN}(aj:j<t.ns.length)(hi:t.ns[j].ax.length<=i):vJ a1 t.ns (j,i,w)=pj a1 t.ns (j,i,w)++(qR t.ns[j]++(bif w then [41]else [])):=by simp only[vJ,ij aj,jT hi];rfl
def O0{d:Nat}{x:dQ}(h:F d=x):g3 F d x=F:=by
 funext t;unfold g3;cases e:Nat.beq t d with
 |false=>rfl| true=>have:=cK e;subst this;exact h.symm
def agi{d:Nat}{x:Option (List Value)}(h:C d=x):jy C d x=C:=by
 funext t;unfold jy;cases e:Nat.beq t d with
 |false=>rfl| true=>have:=cK e;subst this;exact h.symm
def KJ:Code->Code
 | .scope c=>c
 | .seq a b=>match KJ a with
  | .skip=>KJ b| c=>c
 |_=>.skip
def Wi(c:Code)(l:Nat):Code:=(findLabel c l).getD .skip
def cz.z1{M:List aI}{vs:List Value}{K:List aI->Prop}(a8 post:List aI)(cs:Array Value)(T:Nat)(a2:M=a8++⟨b,.cells cs T (0,0)⟩::post)(ah:i+j+vs.length<=cs.size)(U:gU vs=true)
  (h:K (a8++⟨b,.cells (bK cs.toList (i+j) vs).toArray T (0,0)⟩::post)):cz M (((⟨b,0,none⟩:Addr).add i).add j) vs K:=by
 rw[Go.V.z1];refine cz.add a8 post cs T a2 (by omega) U ?_;rw[dz];exact h
structure hU(I:aR)(a1:List Int):Prop where
 c:pe I
 p:OT I
 s:G7 I
 d:sW I a1
def O1(a b c:α)(L:List α):(a::b::(L++[c])).Perm ([b,c]++(a::L)):=
 (List.Perm.swap b a _).trans (((((List.perm_append_singleton c L).cons a)).trans (List.Perm.swap c a L)).cons b)
def O2(a8:List Value)(a b c z:Value)(bd:List Value):bK (a8++([a,b,c]++bd)) (a8.length+1) [z]=a8++([a,z,c]++bd):=by have:=V0 a8 a b z (c::bd) _ rfl;exact this
def hU.mono{I':aR}(h:hU I a1)(bL:∀ b o,I b=some o->I' b=some o):hU I' a1:=by obtain⟨⟨O3,f1,U⟩,⟨Ca,f2,aa⟩,⟨agj,f3,af⟩,⟨aP,bq,O4,f4,bj⟩⟩:=h;exact⟨⟨O3,f1,bL _ _ U⟩,⟨Ca,f2,bL _ _ aa⟩,⟨agj,f3,bL _ _ af⟩,⟨aP,bq,O4,f4,bL _ _ bj⟩⟩
def p9(aB:List Open):List Value:=aB.flatMap nU
def Ha(aB:List Open):(p9 aB).length=aB.length*3:=fb nU 3 (λ_=>rfl) aB
def Cb(aB:List Open)(e:Open):p9 (aB++[e])=p9 aB++[.int .i64 e.1,.int .i64 e.2.1,.bool e.2.2]:=by simp[p9,nU]
abbrev Hb:=gv×a5×List Open×aR
def Wj(t:bN)(g:Nat)(x:Hb):yo:={ bx:=[(1,.ref 1 0),(3,.val (ptr g)),(4,.val x.2.1.val)],cl:=[(1,t.cells)],c2:=x.2.2.2,du:=x.2.1.aL 297++x.1.M g }
structure KK(er:aR)(a1:List Int)(t:bN)(x:Hb):Prop where
 le:∀ b o,er b=some o->x.2.2.2 b=some o
 ok:x.1.ok
 os:x.2.1.ok 3 (p9 x.2.2.1)
 ne:x.2.2.1≠[]
 asb:∀ e∈x.2.2.1,e.1<t.ns.length
 asc:x.1.cO++vK a1 t.ns x.2.2.1=nT a1 t.ns t.bF
 asd:xf t.ns x.2.2.1<=2*t.ns.length
def Wk{er:aR}(bM:hU er a1){t:bN}(av:t.ok er)(ai:right t=true)(aw:t.n<=1024){p:Nat->Nat×Hb->Prop}(x:Hb)(ab:KK er a1 t x)(aD:∀ y,KK er a1 t y->xf t.ns y.2.2.1<xf t.ns x.2.2.1->p 0 (g,y))(B:Nat)(ao:World)(G:Fr)(Cc:d') :
  V ⟨Tryz.prog,k6,[3],Tryz.f178.ntmps,B,ao,er,[],none⟩ (Wi (KJ (Tryz.f178.body.getD .skip)) 0) (g3 (g3 (g3 G 4 (.val x.2.1.val)) 3 (.val (ptr g))) 1 (.ref 1 0)) (jy Cc 1 (some t.cells)) x.2.2.2 (x.2.1.aL 297++x.1.M g)
   (Oh (λl=>qy [] (λy=>Wj t y.1 y.2) (p l)) (wN ⟨Tryz.prog,k6,[3],Tryz.f178.ntmps,B,ao,er,[],none⟩ Tryz.f178.results.toList
    (λr I' M'=>r=.string (strOf (nT a1 t.ns t.bF))/\(∀ b o,er b=some o->I' b=some o)/\M'=[]))):=by
 obtain⟨x,⟨B4,n,fl,aQ⟩,aB,dO⟩:=x;obtain⟨bn,Hc,dp,bH,hV,oI,Wl⟩:=ab;simp only at bn Hc dp bH hV oI Wl aD |-;have Cd:=bM.mono bn;have s3:=av.mono bn;have ua:=av.n;obtain⟨ik,⟨j,i,w⟩,rfl⟩:∃ ik e,aB=ik++[e]:=by
  rcases GR aB with h | ⟨r,e,h⟩;·exact(bH h).elim
  ·exact⟨r,e,by simpa using h⟩
 have jZ:ik.length+1=n:=by have U:=dp.len;rw[Ha]at U;simp at U;omega
 have aj:j<t.ns.length:=hV (j,i,w) (by simp);have jS:j<t.n:=by omega
 cases B4 with
 |none=>have:=(dp.nil rfl).1;simp only at this;omega| some c5=>
 obtain⟨fF,oB,l0,g0⟩:=dp.cap c5 rfl;simp only at fF oB l0 g0;have iD:(p9 ik).length=(n-1)*3:=by rw[Ha];omega
 obtain⟨bd,nR⟩:∃ bd,aQ=p9 ik++([.int .i64 j,.int .i64 i,.bool w]++bd):=by refine⟨aQ.drop (n*3),?_⟩;have aa:=vB (n*3) aQ;rw[g0,Cb,fA]at aa;exact aa.symm
 have yI:aQ[(n-1)*3+0]?=some (.int .i64 j):=by rw[nR,<-iD,l3 (by omega)];simp
 have s4:aQ[(n-1)*3+1]?=some (.int .i64 i):=by rw[nR,<-iD,l3 (by omega)];simp
 have pk:aQ[(n-1)*3+2]?=some (.bool w):=by rw[nR,<-iD,l3 (by omega)];simp
 have z5:=Wb (a1:=a1) ai;have hc:x.cO.length<=2412*t.ns.length:=by have:=congrArg List.length oI;rw[cP]at this;omega
 have Wm:=Wd t.ns (ik++[(j,i,w)]);simp only[cP,eQ,ih]at Wm;have hN:=s3.ns t.ns[j] (cC aj);have cY:=hN.kn;have jR:=G5 (Ec ai aj);obtain⟨ad,bP,bu⟩:=s3.bg.row aM.de jS aj;rw[B']at oI;rw[s0]at Wl aD Wm;have vL:IntKind.i64.wrap ((n:Int)-1)=((n-1:Nat):Int):=by rw[wrap_i64 ⟨by omega,by omega⟩];omega
 refine bc.mk (((n-1:Nat)):Int) vL ?_;refine bk.mk ⟨c5,0,none⟩ (n-1) rfl rfl (by show n-1<n;omega) ?_;refine c4.draw aU rfl rfl rfl ?_;refine aK.mk [.int .i64 j] (nP (b:=c5) (cs:=aQ) (T:=297) (by simp[a5.aL]) yI) ?_;refine bk.mk ad j bP rfl jS ?_;refine aK.mk _ (bu _) ?_;refine cv.mk λb6 KL Wn=>?_;refine cz.mk [] (⟨c5,.cells aQ.toArray 297 (0,0)⟩::x.M g) _ _ rfl rfl (b0 rfl) rfl ?_;refine aK.mk [.int .i64 i] (nP (b:=c5) (cs:=aQ) (T:=297) (by simp[a5.aL]) s4) ?_;refine aJ.mk (λU=>?_) (λU=>?_)
 ·refine aK.mk [.bool w] (nP (b:=c5) (cs:=aQ) (T:=297) (by simp[a5.aL]) pk) ?_;refine aJ.mk (λaa=>?_) (λaa=>?_)
  ·refine a0.mk (x.M g) [⟨b6,.cells t.ns[j].cells.toArray 59 (0,0)⟩,⟨c5,.cells aQ.toArray 297 (0,0)⟩] _ (iK (l₁:=[_,_])) (p5 g Hc 40 (by omega)) ?_;rintro v fE ey -⟨rfl,rfl,y,aH,hb,rfl⟩;have w9:y.cO.length<=2412*t.ns.length+1:=by rw[hb];simp;omega
   refine aK.mk _ (ew (T:=59) (b:=b6) (cs:=t.ns[j].cells) (k:=0) (n:=9) (by simp) (b0 rfl)) ?_;refine a0.mk [] (y.M g++[⟨b6,.cells t.ns[j].cells.toArray 59 (0,0)⟩,⟨c5,.cells aQ.toArray 297 (0,0)⟩]) _ (by simp) (V8 Cd.d Cd.s hN jR) ?_;rintro v fE ey -⟨rfl,iL,rfl⟩;have fQ:∀ b o,er b=some o->fE b=some o:=λb o h=>iL _ _ (bn _ _ h);have Ei:=OV a1 jR;refine a0.mk (y.M g) [⟨b6,.cells t.ns[j].cells.toArray 59 (0,0)⟩,⟨c5,.cells aQ.toArray 297 (0,0)⟩] _ (by simp) (vC g aH _ (by show _+(sZ a1 t.ns[j]).length<=_;omega)) ?_;rintro v ie kq -⟨rfl,rfl,u,hu,yH,rfl⟩;have s5:u.cO=x.cO++pj a1 t.ns (j,i,w):=by rw[yH,hb];simp only[pj,U,aa,ij aj,bh,bf];simp[strOf]
   have V5:u.cO.length<=2412*t.ns.length+2401:=by rw[s5,cP];simp only[pj,U,aa,ij aj,bh,bf,cP,eQ,ih];omega
   have p':=bM.mono fQ;have dZ:=av.mono fQ;have rY:=dZ.ns t.ns[j] (cC aj);have z6:∀ {k m:Nat},k+m<=9->cq ie (u.M g++[⟨b6,.cells t.ns[j].cells.toArray 59 (0,0)⟩,⟨c5,.cells aQ.toArray 297 (0,0)⟩]) ((⟨b6,0,none⟩:Addr).add k) m ((t.ns[j].cells.drop k).take m):=λh=>ew (T:=59) (by simp) h;refine c4.draw aU rfl rfl rfl ?_;refine aK.mk [.int .i64 i] (nP (b:=c5) (cs:=aQ) (T:=297) (by simp[a5.aL]) s4) ?_;refine aK.mk _ (z6 (by decide)) ?_;refine aJ.mk (λae=>?_) (λae=>?_)
   ·have eP:i<t.ns[j].kn:=by simpa using ae
    have rZ:i<t.ns[j].ax.length:=by omega
    obtain⟨eK,fG,e0⟩:=rY.bg.one eP rZ;have gq:=mz ai j aj _ (cC rZ);obtain⟨q,hW⟩:=g' gq.1;have eS:q<t.ns.length:=by omega
    have po:q<t.n:=by omega
    obtain⟨r0,yJ,yK⟩:=dZ.bg.row aM.de po eS;have lC:∀ M,cq ie M ((r0.add (q*9)).add 0) 1 [.int .u8 t.ns[q].k]:=λM=>(yK M).part (k:=0) (m:=1) (by decide);have vM:pi t.ns ((q:Nat):Int)=t.ns[q].k:=by simp[pi,cS,eS]
    have jo:=OX (a1:=a1) ai aj (w:=w) rZ;have z7:=OY ai aj (w:=w) (w':=h8 t.ns[j].k t.ns[q].k) rZ;rw[hW]at jo z7;simp only[Kr,kH]at jo z7;rw[vM]at jo;have gu:IntKind.i64.wrap ((i:Int)+1)=((i+1:Nat):Int):=by have:=rY.bg.cap;rw[wrap_i64 ⟨by omega,by omega⟩];omega
    have cg:bK aQ ((n-1)*3+1) [.int .i64 ((i+1:Nat):Int)]=p9 ik++([.int .i64 j,.int .i64 ((i+1:Nat):Int),.bool w]++bd):=by rw[nR,<-iD];exact O2 _ _ _ _ _ _
    have Hd:a5.ok ⟨some c5,n,fl,bK aQ ((n-1)*3+1) [.int .i64 ((i+1:Nat):Int)]⟩ 3 (p9 (ik++[(j,i+1,w)])):=by
     rw[cg,Cb];refine⟨by simp only[cP,eQ,ih];omega,(λh=>by cases h),λbW _=>⟨?_,oB,l0,?_⟩⟩;·simp only;rw[<-fF,nR];simp
     ·simp only;rw[<-fA];refine rV ?_;simp only[cP,eQ,ih];omega
    refine aK.mk [.int .i64 i] (nP (b:=c5) (cs:=aQ) (T:=297) (by simp[a5.aL]) s4) ?_;refine aJ.mk (λa9=>by simp at U a9;omega) (λa9=>?_);refine c4.draw aU rfl rfl rfl ?_;refine aK.mk _ (ew (T:=59) (b:=b6) (cs:=t.ns[j].cells) (k:=8) (n:=1) (by simp) (b0 rfl)) ?_;refine aK.mk [.int .i64 i] (nP (b:=c5) (cs:=aQ) (T:=297) (by simp[a5.aL]) s4) ?_;refine bk.mk eK i fG rfl eP ?_;refine aK.mk [.int .i64 (q:Nat)] (by have fI:=e0;rw[hW]at fI;exact fI _) ?_;refine aK.mk [.int .i64 i] (nP (b:=c5) (cs:=aQ) (T:=297) (by simp[a5.aL]) s4) ?_;refine bc.mk ((i+1:Nat):Int) gu ?_;refine cz.z1 (u.M g++[⟨b6,.cells t.ns[j].cells.toArray 59 (0,0)⟩]) [] aQ.toArray 297 (by simp[a5.aL]) ?_ rfl ?_;·simp only[vu];show(n-1)*3+1+1<=_;omega
    refine c4.draw aU rfl rfl rfl ?_;refine aK.mk [.int .u8 t.ns[j].k] (ew (T:=59) (b:=b6) (cs:=t.ns[j].cells) (k:=0) (n:=1) (by simp) (b0 rfl)) ?_;refine bk.mk r0 q yJ rfl po ?_;refine aK.mk [.int .u8 t.ns[q].k] (lC _) ?_;refine g7.mk _ (OP t.ns[j].k t.ns[q].k) ?_;rintro v z8 lZ -⟨rfl,rfl,rfl⟩;refine cv.mk λb9 hD Ce=>?_;refine bs.append aU rfl (by simp) (e:=297) rfl rfl rfl ⟨some c5,n,fl,bK aQ ((n-1)*3+1) [.int .i64 ((i+1:Nat):Int)]⟩ (xs:=p9 (ik++[(j,i+1,w)])) Hd rfl (m:=1) rfl (bU:=nU (q,0,h8 t.ns[j].k t.ns[q].k)) (by decide) (ew (b:=b9) (cs:=nU (q,0,h8 t.ns[j].k t.ns[q].k)) (k:=0) (n:=3) (T:=297) (.head _) (b0 rfl)) rfl (Mr:=⟨b9,.cells (nU (q,0,h8 t.ns[j].k t.ns[q].k)).toArray 297 (0,0)⟩::(u.M g++[⟨b6,.cells t.ns[j].cells.toArray 59 (0,0)⟩])) (by exact iK (l₁:=(⟨b9,.cells (nU (q,0,h8 t.ns[j].k t.ns[q].k)).toArray 297 (0,0)⟩:aI)::(u.M g++[⟨b6,.cells t.ns[j].cells.toArray 59 (0,0)⟩])) (l₂:=[⟨c5,.cells (bK aQ ((n-1)*3+1) [.int .i64 ((i+1:Nat):Int)]).toArray 297 (0,0)⟩])) (by show n+1<=_;simp only[maxLen];omega) (by show(n+1)*24<=_;omega) ?_;intro dH c' kw fa e6 hC k9;refine⟨(g,u,⟨some dH,n+1,c',kw⟩,ik++[(j,i+1,w)]++[(q,0,h8 t.ns[j].k t.ns[q].k)],_),aD _ ⟨fQ,hu,⟨?_,(λh=>by cases h),λbW _=>⟨fa,e6,hC,?_⟩⟩,by simp,?_,?_,?_⟩ ?_,.perm (M1:=[⟨b9,.cells (nU (q,0,h8 t.ns[j].k t.ns[q].k)).toArray 297 (0,0)⟩,⟨b6,.cells t.ns[j].cells.toArray 59 (0,0)⟩]++(⟨dH,.cells kw.toArray 297 (0,0)⟩::u.M g)) (O1 _ _ _ _) (.sub (mW _ _) .refl),f',.cons rfl .nil⟩;·show _=(n+1)*3;rw[Ha];simp;omega
    ·show kw.take ((n+1)*3)=_;rw[Cb (ik++[(j,i+1,w)])];exact k9
    ·intro e he;simp only[dV,gI]at he;rcases he with(he | rfl) | rfl
     ·exact hV e (by simp[he])
     ·exact aj
     ·exact eS
    ·simp only;rw[B',B',s5,<-oI,jo];rw[show decide (0<(i:Int))=false from a9];simp
    ·simp only;rw[s0,s0];omega
    ·simp only;rw[s0,s0];omega
   ·have eP:t.ns[j].ax.length<=i:=by simp at ae;omega
    have jo:=OZ (a1:=a1) aj (w:=w) eP;have qJ:=KH t.ns[j];refine aK.mk _ (ew (T:=59) (b:=b6) (cs:=t.ns[j].cells) (k:=0) (n:=9) (by simp) (b0 rfl)) ?_;refine a0.mk [] (u.M g++[⟨b6,.cells t.ns[j].cells.toArray 59 (0,0)⟩,⟨c5,.cells aQ.toArray 297 (0,0)⟩]) _ (.refl _) (OU p'.c p'.p p'.s rY jR) ?_;rintro v z8 lZ -⟨rfl,rfl,rfl⟩;refine a0.mk (u.M g) [⟨b6,.cells t.ns[j].cells.toArray 59 (0,0)⟩,⟨c5,.cells aQ.toArray 297 (0,0)⟩] _ (by simp) (vC g hu _ (by show _+(qR t.ns[j]).length<=_;omega)) ?_;rintro v KM m9 -⟨rfl,rfl,a,aE,iM,rfl⟩;have Wo:a.cO.length<=2412*t.ns.length+2410:=by rw[iM,cP];show _+(qR t.ns[j]).length<=_;omega
    refine aK.mk [.bool w] (nP (b:=c5) (cs:=aQ) (T:=297) (by simp[a5.aL]) pk) ?_;refine aJ.mk (λhw=>?_) (λhw=>?_)
    ·subst hw;refine a0.mk (a.M g) [⟨b6,.cells t.ns[j].cells.toArray 59 (0,0)⟩,⟨c5,.cells aQ.toArray 297 (0,0)⟩] _ (by simp) (p5 g aE 41 (by omega)) ?_;rintro v Wp KN -⟨rfl,rfl,c,aN,jz,rfl⟩;refine bc.mk (((n-1:Nat)):Int) vL ?_;refine jO.mk 0 (n-1) rfl rfl (bw _) (by show n-1<=fl;omega) ?_;refine aJ.mk (λa9=>?_) (λa9=>?_)
     ·have h4:0<n-1:=by simp at a9;omega
      refine⟨(g,c,⟨some c5,n-1,fl,aQ⟩,ik,_),aD _ ⟨fQ,aN,⟨?_,(λh=>by cases h),λbW _=>⟨fF,by show n-1<=fl;omega,l0,?_⟩⟩,?_,λe he=>hV e (by simp[he]),?_,?_⟩ ?_,.perm (M1:=[⟨b6,.cells t.ns[j].cells.toArray 59 (0,0)⟩]++(⟨c5,.cells aQ.toArray 297 (0,0)⟩::c.M g)) (iK (l₂:=[_,_])) (.sub (mW _ _) .refl),f',.cons rfl .nil⟩;·exact iD
      ·show aQ.take ((n-1)*3)=_;rw[nR,<-iD];exact rV rfl
      ·intro h;simp only at h;rw[h]at jZ;simp at jZ;omega
      ·simp only;rw[jz,iM,s5,<-oI,jo];simp[strOf]
      ·simp only;omega
      ·simp only[oH];omega
     ·have h4:n-1=0:=by simp at a9;omega
      have vN:ik=[]:=iT (by omega);have pq:c.cO=nT a1 t.ns t.bF:=by rw[jz,iM,s5,<-oI,jo,vN];simp[vK,strOf]
      refine a0.mk (c.M g) [⟨b6,.cells t.ns[j].cells.toArray 59 (0,0)⟩,⟨c5,.cells aQ.toArray 297 (0,0)⟩] _ (by simp) (yG g aN (by rw[pq];omega)) ?_;rintro v Ej lD -⟨rfl,rfl,rfl⟩;refine⟨_,_,.sub (fw _) .refl,?_,fQ,rfl⟩;rw[pq];rfl
    ·subst hw;refine bc.mk (((n-1:Nat)):Int) vL ?_;refine jO.mk 0 (n-1) rfl rfl (bw _) (by show n-1<=fl;omega) ?_;refine aJ.mk (λa9=>?_) (λa9=>?_)
     ·have h4:0<n-1:=by simp at a9;omega
      refine⟨(g,a,⟨some c5,n-1,fl,aQ⟩,ik,_),aD _ ⟨fQ,aE,⟨?_,(λh=>by cases h),λbW _=>⟨fF,by show n-1<=fl;omega,l0,?_⟩⟩,?_,λe he=>hV e (by simp[he]),?_,?_⟩ ?_,.perm (M1:=[⟨b6,.cells t.ns[j].cells.toArray 59 (0,0)⟩]++(⟨c5,.cells aQ.toArray 297 (0,0)⟩::a.M g)) (iK (l₂:=[_,_])) (.sub (mW _ _) .refl),f',.cons rfl .nil⟩;·exact iD
      ·show aQ.take ((n-1)*3)=_;rw[nR,<-iD];exact rV rfl
      ·intro h;simp only at h;rw[h]at jZ;simp at jZ;omega
      ·simp only;rw[iM,s5,<-oI,jo];simp[strOf]
      ·simp only;omega
      ·simp only[oH];omega
     ·have h4:n-1=0:=by simp at a9;omega
      have vN:ik=[]:=iT (by omega);have pq:a.cO=nT a1 t.ns t.bF:=by rw[iM,s5,<-oI,jo,vN];simp[vK,strOf]
      refine a0.mk (a.M g) [⟨b6,.cells t.ns[j].cells.toArray 59 (0,0)⟩,⟨c5,.cells aQ.toArray 297 (0,0)⟩] _ (by simp) (yG g aE (by rw[pq];omega)) ?_;rintro v Ej lD -⟨rfl,rfl,rfl⟩;refine⟨_,_,.sub (fw _) .refl,?_,fQ,rfl⟩;rw[pq];rfl
  ·refine aK.mk _ (ew (T:=59) (b:=b6) (cs:=t.ns[j].cells) (k:=0) (n:=9) (.head _) (b0 rfl)) ?_;refine a0.mk [] (⟨b6,.cells t.ns[j].cells.toArray 59 (0,0)⟩::⟨c5,.cells aQ.toArray 297 (0,0)⟩::x.M g) _ (.refl _) (V8 Cd.d Cd.s hN jR) ?_;rintro v fE ey -⟨rfl,iL,rfl⟩;have fQ:∀ b o,er b=some o->fE b=some o:=λb o h=>iL _ _ (bn _ _ h);have Ei:=OV a1 jR;refine a0.mk (x.M g) [⟨b6,.cells t.ns[j].cells.toArray 59 (0,0)⟩,⟨c5,.cells aQ.toArray 297 (0,0)⟩] _ (iK (l₁:=[_,_])) (vC g Hc _ (by show _+(sZ a1 t.ns[j]).length<=_;omega)) ?_;rintro v ie kq -⟨rfl,rfl,u,hu,yH,rfl⟩;have s5:u.cO=x.cO++pj a1 t.ns (j,i,w):=by rw[yH];simp only[pj,U,aa,ij aj,bh,bf];simp[strOf]
   have V5:u.cO.length<=2412*t.ns.length+2401:=by rw[s5,cP];simp only[pj,U,aa,ij aj,bh,bf,cP,eQ,ih];omega
   have p':=bM.mono fQ;have dZ:=av.mono fQ;have rY:=dZ.ns t.ns[j] (cC aj);have z6:∀ {k m:Nat},k+m<=9->cq ie (u.M g++[⟨b6,.cells t.ns[j].cells.toArray 59 (0,0)⟩,⟨c5,.cells aQ.toArray 297 (0,0)⟩]) ((⟨b6,0,none⟩:Addr).add k) m ((t.ns[j].cells.drop k).take m):=λh=>ew (T:=59) (by simp) h;refine c4.draw aU rfl rfl rfl ?_;refine aK.mk [.int .i64 i] (nP (b:=c5) (cs:=aQ) (T:=297) (by simp[a5.aL]) s4) ?_;refine aK.mk _ (z6 (by decide)) ?_;refine aJ.mk (λae=>?_) (λae=>?_)
   ·have eP:i<t.ns[j].kn:=by simpa using ae
    have rZ:i<t.ns[j].ax.length:=by omega
    obtain⟨eK,fG,e0⟩:=rY.bg.one eP rZ;have gq:=mz ai j aj _ (cC rZ);obtain⟨q,hW⟩:=g' gq.1;have eS:q<t.ns.length:=by omega
    have po:q<t.n:=by omega
    obtain⟨r0,yJ,yK⟩:=dZ.bg.row aM.de po eS;have lC:∀ M,cq ie M ((r0.add (q*9)).add 0) 1 [.int .u8 t.ns[q].k]:=λM=>(yK M).part (k:=0) (m:=1) (by decide);have vM:pi t.ns ((q:Nat):Int)=t.ns[q].k:=by simp[pi,cS,eS]
    have jo:=OX (a1:=a1) ai aj (w:=w) rZ;have z7:=OY ai aj (w:=w) (w':=h8 t.ns[j].k t.ns[q].k) rZ;rw[hW]at jo z7;simp only[Kr,kH]at jo z7;rw[vM]at jo;have gu:IntKind.i64.wrap ((i:Int)+1)=((i+1:Nat):Int):=by have:=rY.bg.cap;rw[wrap_i64 ⟨by omega,by omega⟩];omega
    have cg:bK aQ ((n-1)*3+1) [.int .i64 ((i+1:Nat):Int)]=p9 ik++([.int .i64 j,.int .i64 ((i+1:Nat):Int),.bool w]++bd):=by rw[nR,<-iD];exact O2 _ _ _ _ _ _
    have Hd:a5.ok ⟨some c5,n,fl,bK aQ ((n-1)*3+1) [.int .i64 ((i+1:Nat):Int)]⟩ 3 (p9 (ik++[(j,i+1,w)])):=by
     rw[cg,Cb];refine⟨by simp only[cP,eQ,ih];omega,(λh=>by cases h),λbW _=>⟨?_,oB,l0,?_⟩⟩;·simp only;rw[<-fF,nR];simp
     ·simp only;rw[<-fA];refine rV ?_;simp only[cP,eQ,ih];omega
    refine aK.mk [.int .i64 i] (nP (b:=c5) (cs:=aQ) (T:=297) (by simp[a5.aL]) s4) ?_;refine aJ.mk (λa9=>by simp at U a9;omega) (λa9=>?_);refine c4.draw aU rfl rfl rfl ?_;refine aK.mk _ (ew (T:=59) (b:=b6) (cs:=t.ns[j].cells) (k:=8) (n:=1) (by simp) (b0 rfl)) ?_;refine aK.mk [.int .i64 i] (nP (b:=c5) (cs:=aQ) (T:=297) (by simp[a5.aL]) s4) ?_;refine bk.mk eK i fG rfl eP ?_;refine aK.mk [.int .i64 (q:Nat)] (by have fI:=e0;rw[hW]at fI;exact fI _) ?_;refine aK.mk [.int .i64 i] (nP (b:=c5) (cs:=aQ) (T:=297) (by simp[a5.aL]) s4) ?_;refine bc.mk ((i+1:Nat):Int) gu ?_;refine cz.z1 (u.M g++[⟨b6,.cells t.ns[j].cells.toArray 59 (0,0)⟩]) [] aQ.toArray 297 (by simp[a5.aL]) ?_ rfl ?_;·simp only[vu];show(n-1)*3+1+1<=_;omega
    refine c4.draw aU rfl rfl rfl ?_;refine aK.mk [.int .u8 t.ns[j].k] (ew (T:=59) (b:=b6) (cs:=t.ns[j].cells) (k:=0) (n:=1) (by simp) (b0 rfl)) ?_;refine bk.mk r0 q yJ rfl po ?_;refine aK.mk [.int .u8 t.ns[q].k] (lC _) ?_;refine g7.mk _ (OP t.ns[j].k t.ns[q].k) ?_;rintro v z8 lZ -⟨rfl,rfl,rfl⟩;refine cv.mk λb9 hD Ce=>?_;refine bs.append aU rfl (by simp) (e:=297) rfl rfl rfl ⟨some c5,n,fl,bK aQ ((n-1)*3+1) [.int .i64 ((i+1:Nat):Int)]⟩ (xs:=p9 (ik++[(j,i+1,w)])) Hd rfl (m:=1) rfl (bU:=nU (q,0,h8 t.ns[j].k t.ns[q].k)) (by decide) (ew (b:=b9) (cs:=nU (q,0,h8 t.ns[j].k t.ns[q].k)) (k:=0) (n:=3) (T:=297) (.head _) (b0 rfl)) rfl (Mr:=⟨b9,.cells (nU (q,0,h8 t.ns[j].k t.ns[q].k)).toArray 297 (0,0)⟩::(u.M g++[⟨b6,.cells t.ns[j].cells.toArray 59 (0,0)⟩])) (by exact iK (l₁:=(⟨b9,.cells (nU (q,0,h8 t.ns[j].k t.ns[q].k)).toArray 297 (0,0)⟩:aI)::(u.M g++[⟨b6,.cells t.ns[j].cells.toArray 59 (0,0)⟩])) (l₂:=[⟨c5,.cells (bK aQ ((n-1)*3+1) [.int .i64 ((i+1:Nat):Int)]).toArray 297 (0,0)⟩])) (by show n+1<=_;simp only[maxLen];omega) (by show(n+1)*24<=_;omega) ?_;intro dH c' kw fa e6 hC k9;refine⟨(g,u,⟨some dH,n+1,c',kw⟩,ik++[(j,i+1,w)]++[(q,0,h8 t.ns[j].k t.ns[q].k)],_),aD _ ⟨fQ,hu,⟨?_,(λh=>by cases h),λbW _=>⟨fa,e6,hC,?_⟩⟩,by simp,?_,?_,?_⟩ ?_,.perm (M1:=[⟨b9,.cells (nU (q,0,h8 t.ns[j].k t.ns[q].k)).toArray 297 (0,0)⟩,⟨b6,.cells t.ns[j].cells.toArray 59 (0,0)⟩]++(⟨dH,.cells kw.toArray 297 (0,0)⟩::u.M g)) (O1 _ _ _ _) (.sub (mW _ _) .refl),f',.cons rfl .nil⟩;·show _=(n+1)*3;rw[Ha];simp;omega
    ·show kw.take ((n+1)*3)=_;rw[Cb (ik++[(j,i+1,w)])];exact k9
    ·intro e he;simp only[dV,gI]at he;rcases he with(he | rfl) | rfl
     ·exact hV e (by simp[he])
     ·exact aj
     ·exact eS
    ·simp only;rw[B',B',s5,<-oI,jo];rw[show decide (0<(i:Int))=false from a9];simp
    ·simp only;rw[s0,s0];omega
    ·simp only;rw[s0,s0];omega
   ·have eP:t.ns[j].ax.length<=i:=by simp at ae;omega
    have jo:=OZ (a1:=a1) aj (w:=w) eP;have qJ:=KH t.ns[j];refine aK.mk _ (ew (T:=59) (b:=b6) (cs:=t.ns[j].cells) (k:=0) (n:=9) (by simp) (b0 rfl)) ?_;refine a0.mk [] (u.M g++[⟨b6,.cells t.ns[j].cells.toArray 59 (0,0)⟩,⟨c5,.cells aQ.toArray 297 (0,0)⟩]) _ (.refl _) (OU p'.c p'.p p'.s rY jR) ?_;rintro v z8 lZ -⟨rfl,rfl,rfl⟩;refine a0.mk (u.M g) [⟨b6,.cells t.ns[j].cells.toArray 59 (0,0)⟩,⟨c5,.cells aQ.toArray 297 (0,0)⟩] _ (by simp) (vC g hu _ (by show _+(qR t.ns[j]).length<=_;omega)) ?_;rintro v KM m9 -⟨rfl,rfl,a,aE,iM,rfl⟩;have Wo:a.cO.length<=2412*t.ns.length+2410:=by rw[iM,cP];show _+(qR t.ns[j]).length<=_;omega
    refine aK.mk [.bool w] (nP (b:=c5) (cs:=aQ) (T:=297) (by simp[a5.aL]) pk) ?_;refine aJ.mk (λhw=>?_) (λhw=>?_)
    ·subst hw;refine a0.mk (a.M g) [⟨b6,.cells t.ns[j].cells.toArray 59 (0,0)⟩,⟨c5,.cells aQ.toArray 297 (0,0)⟩] _ (by simp) (p5 g aE 41 (by omega)) ?_;rintro v Wp KN -⟨rfl,rfl,c,aN,jz,rfl⟩;refine bc.mk (((n-1:Nat)):Int) vL ?_;refine jO.mk 0 (n-1) rfl rfl (bw _) (by show n-1<=fl;omega) ?_;refine aJ.mk (λa9=>?_) (λa9=>?_)
     ·have h4:0<n-1:=by simp at a9;omega
      refine⟨(g,c,⟨some c5,n-1,fl,aQ⟩,ik,_),aD _ ⟨fQ,aN,⟨?_,(λh=>by cases h),λbW _=>⟨fF,by show n-1<=fl;omega,l0,?_⟩⟩,?_,λe he=>hV e (by simp[he]),?_,?_⟩ ?_,.perm (M1:=[⟨b6,.cells t.ns[j].cells.toArray 59 (0,0)⟩]++(⟨c5,.cells aQ.toArray 297 (0,0)⟩::c.M g)) (iK (l₂:=[_,_])) (.sub (mW _ _) .refl),f',.cons rfl .nil⟩;·exact iD
      ·show aQ.take ((n-1)*3)=_;rw[nR,<-iD];exact rV rfl
      ·intro h;simp only at h;rw[h]at jZ;simp at jZ;omega
      ·simp only;rw[jz,iM,s5,<-oI,jo];simp[strOf]
      ·simp only;omega
      ·simp only[oH];omega
     ·have h4:n-1=0:=by simp at a9;omega
      have vN:ik=[]:=iT (by omega);have pq:c.cO=nT a1 t.ns t.bF:=by rw[jz,iM,s5,<-oI,jo,vN];simp[vK,strOf]
      refine a0.mk (c.M g) [⟨b6,.cells t.ns[j].cells.toArray 59 (0,0)⟩,⟨c5,.cells aQ.toArray 297 (0,0)⟩] _ (by simp) (yG g aN (by rw[pq];omega)) ?_;rintro v Ej lD -⟨rfl,rfl,rfl⟩;refine⟨_,_,.sub (fw _) .refl,?_,fQ,rfl⟩;rw[pq];rfl
    ·subst hw;refine bc.mk (((n-1:Nat)):Int) vL ?_;refine jO.mk 0 (n-1) rfl rfl (bw _) (by show n-1<=fl;omega) ?_;refine aJ.mk (λa9=>?_) (λa9=>?_)
     ·have h4:0<n-1:=by simp at a9;omega
      refine⟨(g,a,⟨some c5,n-1,fl,aQ⟩,ik,_),aD _ ⟨fQ,aE,⟨?_,(λh=>by cases h),λbW _=>⟨fF,by show n-1<=fl;omega,l0,?_⟩⟩,?_,λe he=>hV e (by simp[he]),?_,?_⟩ ?_,.perm (M1:=[⟨b6,.cells t.ns[j].cells.toArray 59 (0,0)⟩]++(⟨c5,.cells aQ.toArray 297 (0,0)⟩::a.M g)) (iK (l₂:=[_,_])) (.sub (mW _ _) .refl),f',.cons rfl .nil⟩;·exact iD
      ·show aQ.take ((n-1)*3)=_;rw[nR,<-iD];exact rV rfl
      ·intro h;simp only at h;rw[h]at jZ;simp at jZ;omega
      ·simp only;rw[iM,s5,<-oI,jo];simp[strOf]
      ·simp only;omega
      ·simp only[oH];omega
     ·have h4:n-1=0:=by simp at a9;omega
      have vN:ik=[]:=iT (by omega);have pq:a.cO=nT a1 t.ns t.bF:=by rw[iM,s5,<-oI,jo,vN];simp[vK,strOf]
      refine a0.mk (a.M g) [⟨b6,.cells t.ns[j].cells.toArray 59 (0,0)⟩,⟨c5,.cells aQ.toArray 297 (0,0)⟩] _ (by simp) (yG g aE (by rw[pq];omega)) ?_;rintro v Ej lD -⟨rfl,rfl,rfl⟩;refine⟨_,_,.sub (fw _) .refl,?_,fQ,rfl⟩;rw[pq];rfl
 ·have ase:x.cO=x.cO++pj a1 t.ns (j,i,w):=by simp only[pj,U,bf,dX]
  have p':=bM.mono bn;have dZ:=av.mono bn;have rY:=dZ.ns t.ns[j] (cC aj);have z6:∀ {k m:Nat},k+m<=9->cq dO (⟨b6,.cells t.ns[j].cells.toArray 59 (0,0)⟩::⟨c5,.cells aQ.toArray 297 (0,0)⟩::x.M g) ((⟨b6,0,none⟩:Addr).add k) m ((t.ns[j].cells.drop k).take m):=λh=>ew (T:=59) (by simp) h;refine c4.draw aU rfl rfl rfl ?_;refine aK.mk [.int .i64 i] (nP (b:=c5) (cs:=aQ) (T:=297) (by simp[a5.aL]) s4) ?_;refine aK.mk _ (z6 (by decide)) ?_;refine aJ.mk (λae=>?_) (λae=>?_)
  ·have eP:i<t.ns[j].kn:=by simpa using ae
   have rZ:i<t.ns[j].ax.length:=by omega
   obtain⟨eK,fG,e0⟩:=rY.bg.one eP rZ;have gq:=mz ai j aj _ (cC rZ);obtain⟨q,hW⟩:=g' gq.1;have eS:q<t.ns.length:=by omega
   have po:q<t.n:=by omega
   obtain⟨r0,yJ,yK⟩:=dZ.bg.row aM.de po eS;have lC:∀ M,cq dO M ((r0.add (q*9)).add 0) 1 [.int .u8 t.ns[q].k]:=λM=>(yK M).part (k:=0) (m:=1) (by decide);have vM:pi t.ns ((q:Nat):Int)=t.ns[q].k:=by simp[pi,cS,eS]
   have jo:=OX (a1:=a1) ai aj (w:=w) rZ;have z7:=OY ai aj (w:=w) (w':=h8 t.ns[j].k t.ns[q].k) rZ;rw[hW]at jo z7;simp only[Kr,kH]at jo z7;rw[vM]at jo;have gu:IntKind.i64.wrap ((i:Int)+1)=((i+1:Nat):Int):=by have:=rY.bg.cap;rw[wrap_i64 ⟨by omega,by omega⟩];omega
   have cg:bK aQ ((n-1)*3+1) [.int .i64 ((i+1:Nat):Int)]=p9 ik++([.int .i64 j,.int .i64 ((i+1:Nat):Int),.bool w]++bd):=by rw[nR,<-iD];exact O2 _ _ _ _ _ _
   have Hd:a5.ok ⟨some c5,n,fl,bK aQ ((n-1)*3+1) [.int .i64 ((i+1:Nat):Int)]⟩ 3 (p9 (ik++[(j,i+1,w)])):=by
    rw[cg,Cb];refine⟨by simp only[cP,eQ,ih];omega,(λh=>by cases h),λbW _=>⟨?_,oB,l0,?_⟩⟩;·simp only;rw[<-fF,nR];simp
    ·simp only;rw[<-fA];refine rV ?_;simp only[cP,eQ,ih];omega
   refine aK.mk [.int .i64 i] (nP (b:=c5) (cs:=aQ) (T:=297) (by simp[a5.aL]) s4) ?_;refine aJ.mk (λa9=>?_) (λa9=>by simp at U a9;omega);refine aK.mk [.int .u8 t.ns[j].k] (ew (T:=59) (b:=b6) (cs:=t.ns[j].cells) (k:=0) (n:=1) (.head _) (b0 rfl)) ?_;refine ez.mk t.ns[j].k.toNat (by have:=rY.k;omega) (by have:=jR.k;have:=rY.k;omega) ?_;refine aK.mk _ (p'.s.rd _ (by have:=jR.k;have:=rY.k;show t.ns[j].k.toNat*3+1<30;omega)) ?_;refine a0.mk (x.M g) [⟨b6,.cells t.ns[j].cells.toArray 59 (0,0)⟩,⟨c5,.cells aQ.toArray 297 (0,0)⟩] _ (iK (l₁:=[_,_])) (vC g Hc _ (by have:=G8 (t.ns[j].k.toNat*3+1);show _+(sY (t.ns[j].k.toNat*3+1)).length<=_;omega)) ?_;rintro v ms kr -⟨rfl,rfl,z,O5,agk,rfl⟩;have uh:z.cO=x.cO++G9 t.ns[j]:=agk;refine c4.draw aU rfl rfl rfl ?_;refine aK.mk _ (ew (T:=59) (b:=b6) (cs:=t.ns[j].cells) (k:=8) (n:=1) (by simp) (b0 rfl)) ?_;refine aK.mk [.int .i64 i] (nP (b:=c5) (cs:=aQ) (T:=297) (by simp[a5.aL]) s4) ?_;refine bk.mk eK i fG rfl eP ?_;refine aK.mk [.int .i64 (q:Nat)] (by have fI:=e0;rw[hW]at fI;exact fI _) ?_;refine aK.mk [.int .i64 i] (nP (b:=c5) (cs:=aQ) (T:=297) (by simp[a5.aL]) s4) ?_;refine bc.mk ((i+1:Nat):Int) gu ?_;refine cz.z1 (z.M g++[⟨b6,.cells t.ns[j].cells.toArray 59 (0,0)⟩]) [] aQ.toArray 297 (by simp[a5.aL]) ?_ rfl ?_;·simp only[vu];show(n-1)*3+1+1<=_;omega
   refine c4.draw aU rfl rfl rfl ?_;refine aK.mk [.int .u8 t.ns[j].k] (ew (T:=59) (b:=b6) (cs:=t.ns[j].cells) (k:=0) (n:=1) (by simp) (b0 rfl)) ?_;refine bk.mk r0 q yJ rfl po ?_;refine aK.mk [.int .u8 t.ns[q].k] (lC _) ?_;refine g7.mk _ (OP t.ns[j].k t.ns[q].k) ?_;rintro v z8 lZ -⟨rfl,rfl,rfl⟩;refine cv.mk λb9 hD Ce=>?_;refine bs.append aU rfl (by simp) (e:=297) rfl rfl rfl ⟨some c5,n,fl,bK aQ ((n-1)*3+1) [.int .i64 ((i+1:Nat):Int)]⟩ (xs:=p9 (ik++[(j,i+1,w)])) Hd rfl (m:=1) rfl (bU:=nU (q,0,h8 t.ns[j].k t.ns[q].k)) (by decide) (ew (b:=b9) (cs:=nU (q,0,h8 t.ns[j].k t.ns[q].k)) (k:=0) (n:=3) (T:=297) (.head _) (b0 rfl)) rfl (Mr:=⟨b9,.cells (nU (q,0,h8 t.ns[j].k t.ns[q].k)).toArray 297 (0,0)⟩::(z.M g++[⟨b6,.cells t.ns[j].cells.toArray 59 (0,0)⟩])) (by exact iK (l₁:=(⟨b9,.cells (nU (q,0,h8 t.ns[j].k t.ns[q].k)).toArray 297 (0,0)⟩:aI)::(z.M g++[⟨b6,.cells t.ns[j].cells.toArray 59 (0,0)⟩])) (l₂:=[⟨c5,.cells (bK aQ ((n-1)*3+1) [.int .i64 ((i+1:Nat):Int)]).toArray 297 (0,0)⟩])) (by show n+1<=_;simp only[maxLen];omega) (by show(n+1)*24<=_;omega) ?_;intro dH c' kw fa e6 hC k9;refine⟨(g,z,⟨some dH,n+1,c',kw⟩,ik++[(j,i+1,w)]++[(q,0,h8 t.ns[j].k t.ns[q].k)],_),aD _ ⟨bn,O5,⟨?_,(λh=>by cases h),λbW _=>⟨fa,e6,hC,?_⟩⟩,by simp,?_,?_,?_⟩ ?_,.perm (M1:=[⟨b9,.cells (nU (q,0,h8 t.ns[j].k t.ns[q].k)).toArray 297 (0,0)⟩,⟨b6,.cells t.ns[j].cells.toArray 59 (0,0)⟩]++(⟨dH,.cells kw.toArray 297 (0,0)⟩::z.M g)) (O1 _ _ _ _) (.sub (mW _ _) .refl),f',.cons rfl .nil⟩;·show _=(n+1)*3;rw[Ha];simp;omega
   ·show kw.take ((n+1)*3)=_;rw[Cb (ik++[(j,i+1,w)])];exact k9
   ·intro e he;simp only[dV,gI]at he;rcases he with(he | rfl) | rfl
    ·exact hV e (by simp[he])
    ·exact aj
    ·exact eS
   ·simp only;rw[B',B',uh,<-oI,jo];rw[show decide (0<(i:Int))=true from a9,show pj a1 t.ns (j,i,w)=[]from by simp only[pj,U,bf]];simp
   ·simp only;rw[s0,s0];omega
   ·simp only;rw[s0,s0];omega
  ·have eP:t.ns[j].ax.length<=i:=by simp at ae;omega
   have agl:=OZ (a1:=a1) aj (w:=w) eP;have jo:vJ a1 t.ns (j,i,w)=qR t.ns[j]++(bif w then [41]else []):=by rw[agl];simp only[pj,U,bf,kN]
   have qJ:=KH t.ns[j];refine aK.mk _ (ew (T:=59) (b:=b6) (cs:=t.ns[j].cells) (k:=0) (n:=9) (.head _) (b0 rfl)) ?_;refine a0.mk [] (⟨b6,.cells t.ns[j].cells.toArray 59 (0,0)⟩::⟨c5,.cells aQ.toArray 297 (0,0)⟩::x.M g) _ (.refl _) (OU p'.c p'.p p'.s rY jR) ?_;rintro v z8 lZ -⟨rfl,rfl,rfl⟩;refine a0.mk (x.M g) [⟨b6,.cells t.ns[j].cells.toArray 59 (0,0)⟩,⟨c5,.cells aQ.toArray 297 (0,0)⟩] _ (iK (l₁:=[_,_])) (vC g Hc _ (by show _+(qR t.ns[j]).length<=_;omega)) ?_;rintro v KM m9 -⟨rfl,rfl,a,aE,iM,rfl⟩;have Wo:a.cO.length<=2412*t.ns.length+2410:=by rw[iM,cP];show _+(qR t.ns[j]).length<=_;omega
   refine aK.mk [.bool w] (nP (b:=c5) (cs:=aQ) (T:=297) (by simp[a5.aL]) pk) ?_;refine aJ.mk (λhw=>?_) (λhw=>?_)
   ·subst hw;refine a0.mk (a.M g) [⟨b6,.cells t.ns[j].cells.toArray 59 (0,0)⟩,⟨c5,.cells aQ.toArray 297 (0,0)⟩] _ (by simp) (p5 g aE 41 (by omega)) ?_;rintro v Wp KN -⟨rfl,rfl,c,aN,jz,rfl⟩;refine bc.mk (((n-1:Nat)):Int) vL ?_;refine jO.mk 0 (n-1) rfl rfl (bw _) (by show n-1<=fl;omega) ?_;refine aJ.mk (λa9=>?_) (λa9=>?_)
    ·have h4:0<n-1:=by simp at a9;omega
     refine⟨(g,c,⟨some c5,n-1,fl,aQ⟩,ik,_),aD _ ⟨bn,aN,⟨?_,(λh=>by cases h),λbW _=>⟨fF,by show n-1<=fl;omega,l0,?_⟩⟩,?_,λe he=>hV e (by simp[he]),?_,?_⟩ ?_,.perm (M1:=[⟨b6,.cells t.ns[j].cells.toArray 59 (0,0)⟩]++(⟨c5,.cells aQ.toArray 297 (0,0)⟩::c.M g)) (iK (l₂:=[_,_])) (.sub (mW _ _) .refl),f',.cons rfl .nil⟩;·exact iD
     ·show aQ.take ((n-1)*3)=_;rw[nR,<-iD];exact rV rfl
     ·intro h;simp only at h;rw[h]at jZ;simp at jZ;omega
     ·simp only;rw[jz,iM,<-oI,jo];simp[strOf]
     ·simp only;omega
     ·simp only[oH];omega
    ·have h4:n-1=0:=by simp at a9;omega
     have vN:ik=[]:=iT (by omega);have pq:c.cO=nT a1 t.ns t.bF:=by rw[jz,iM,<-oI,jo,vN];simp[vK,strOf]
     refine a0.mk (c.M g) [⟨b6,.cells t.ns[j].cells.toArray 59 (0,0)⟩,⟨c5,.cells aQ.toArray 297 (0,0)⟩] _ (by simp) (yG g aN (by rw[pq];omega)) ?_;rintro v Ej lD -⟨rfl,rfl,rfl⟩;refine⟨_,_,.sub (fw _) .refl,?_,bn,rfl⟩;rw[pq];rfl
   ·subst hw;refine bc.mk (((n-1:Nat)):Int) vL ?_;refine jO.mk 0 (n-1) rfl rfl (bw _) (by show n-1<=fl;omega) ?_;refine aJ.mk (λa9=>?_) (λa9=>?_)
    ·have h4:0<n-1:=by simp at a9;omega
     refine⟨(g,a,⟨some c5,n-1,fl,aQ⟩,ik,_),aD _ ⟨bn,aE,⟨?_,(λh=>by cases h),λbW _=>⟨fF,by show n-1<=fl;omega,l0,?_⟩⟩,?_,λe he=>hV e (by simp[he]),?_,?_⟩ ?_,.perm (M1:=[⟨b6,.cells t.ns[j].cells.toArray 59 (0,0)⟩]++(⟨c5,.cells aQ.toArray 297 (0,0)⟩::a.M g)) (iK (l₂:=[_,_])) (.sub (mW _ _) .refl),f',.cons rfl .nil⟩;·exact iD
     ·show aQ.take ((n-1)*3)=_;rw[nR,<-iD];exact rV rfl
     ·intro h;simp only at h;rw[h]at jZ;simp at jZ;omega
     ·simp only;rw[iM,<-oI,jo];simp[strOf]
     ·simp only;omega
     ·simp only[oH];omega
    ·have h4:n-1=0:=by simp at a9;omega
     have vN:ik=[]:=iT (by omega);have pq:a.cO=nT a1 t.ns t.bF:=by rw[iM,<-oI,jo,vN];simp[vK,strOf]
     refine a0.mk (a.M g) [⟨b6,.cells t.ns[j].cells.toArray 59 (0,0)⟩,⟨c5,.cells aQ.toArray 297 (0,0)⟩] _ (by simp) (yG g aE (by rw[pq];omega)) ?_;rintro v Ej lD -⟨rfl,rfl,rfl⟩;refine⟨_,_,.sub (fw _) .refl,?_,bn,rfl⟩;rw[pq];rfl
def Wq{X:c7}{c:Code}{M:List aI}{K:lv}{t1 t2 t3:Nat}{a b d:dQ}{e:Option (List Value)}(h:∀ G Cc,V X c (g3 (g3 (g3 G t3 d) t2 b) t1 a) (jy Cc t1 e) I M K)
  (U:F t1=a) (aa:F t2=b) (af:F t3=d) (aP:C t1=e):V X c F C I M K:=by
 have:=h F C;rwa [O0 af,O0 aa,O0 U,agi aP]at this
def agm(bM:hU I a1){t:bN}(av:t.ok I)(aw:t.n<=1024):Spec Tryz.prog 178 [t.val] I [] λr I' M'=>r=.string (strOf (rX a1 t))/\(∀ b o,I b=some o->I' b=some o)/\M'=[]:=by
 refine b4 [3] aU Tryz.func178 rfl rfl rfl ?_;intro B ao;have ua:=av.n;cases ai:right t with
 |true=>
  have O6:rX a1 t=nT a1 t.ns t.bF:=by simp[rX,ai]
  rw[O6];have ha:=yC ai;obtain⟨r,rT⟩:=g' ha.1;have ek:r<t.ns.length:=by omega
  obtain⟨ns,KO,r1,KP,bF⟩:=t;simp only at rT;subst rT;have rT:(⟨ns,KO,r1,KP,Int.ofNat r⟩:bN).bF=Int.ofNat r:=rfl;refine c4.scope aU rfl (λy:Nat×Hb=>Wj ⟨ns,KO,r1,KP,Int.ofNat r⟩ y.1 y.2) (λ_=>0) (λy=>KK I a1 ⟨ns,KO,r1,KP,Int.ofNat r⟩ y.2) (λy=>xf ns y.2.2.2.1) (λ_=>Wi (KJ (Tryz.f178.body.getD .skip)) 0) (λ_ _=>⟨by kernel_rfl,by kernel_rfl⟩) ?_ ?_
  ·refine a0.mk [] [] _ (.refl _) (w5 bM.c av) ?_;rintro v I' M' -⟨rfl,rfl,rfl⟩;rw[ai];refine aJ.mk (λh=>by cases h) (λ_=>?_);refine cv.mk λg aA Ed=>?_;refine cv.mk λfx Cf asf=>?_;refine Wq (t1:=1) (t2:=3) (t3:=4) (λG Cc=>Wk bM av ai aw (p:=λl y=>KK _ a1 ⟨ns,KO,r1,KP,Int.ofNat r⟩ y.2/\0=l) (g:=g) (gv.new,⟨some fx,1,1,nU (r,0,false)⟩,[(r,0,false)],I') ?_ (λy aH _=>⟨aH,rfl⟩) B ao G Cc) rfl rfl rfl rfl;refine⟨λ_ _ h=>h,gv.Kx,⟨rfl,(λh=>by cases h),λbW _=>⟨rfl,bY _,by simp only[maxLen];omega,rfl⟩⟩,by simp,?_,?_,?_⟩
   ·intro e he;simp only[gI]at he;subst he;exact ek
   ·simp only[vK,OF,nG,List.flatMap_nil,dX];have fI:=Wg (a1:=a1) ai ek false;simp only at fI |-;rw[fI];simp[gv.new,paren]
   ·have U:=Wh ai ek false;have aa:=agh ai;simp only[Kr]at U aa;simp only[xf,dv,jh,pg,Ku];omega
  ·rintro⟨g,x⟩ab;refine Wq (t1:=1) (t2:=3) (t3:=4) (λG Cc=>Wk bM av ai aw (g:=g) x ab (λy aH aS=>⟨⟨aH,rfl⟩,aS⟩) B ao G Cc) rfl rfl rfl rfl
 |false=>
  have O6:rX a1 t=[]:=by simp[rX,ai]
  rw[O6];refine c4.scope aU rfl (ι:=Empty) (λe=>nomatch e) (λe=>nomatch e) (λe=>nomatch e) (λe=>nomatch e) (λ_=>.skip) (λe=>nomatch e) ?_ (λe=>nomatch e);refine a0.mk [] [] _ (.refl _) (w5 bM.c av) ?_;rintro v I' M' -⟨rfl,rfl,rfl⟩;rw[ai];refine aJ.mk (λ_=>?_) (λh=>by cases h);exact⟨_,_,.refl,rfl,λ_ _ h=>h,rfl⟩
def bI.val(d:bI):Value:=.agg #[.string d.name,.slice d.t.a d.t.n d.t.c,.int .i64 d.t.bF]
def uo(a1:List Int)(d:bI):List UInt8:=
 bif decide (strOf (rX a1 d.t)=⟨#[]⟩) || !m3 d.name then []else d.name.data.toList++[32,60,45,32]++rX a1 d.t++[10]
def Wr(h:m3 s=true):s.size<=32:=by unfold m3 at h;simp only[cp,e5]at h;omega
def agn(a1:List Int)(d:bI):(uo a1 d).length<=37+2412*d.t.ns.length:=by
 have U:=Wc a1 d.t;unfold uo;cases aN:(decide (strOf (rX a1 d.t)=⟨#[]⟩) || !m3 d.name)with
 |true=>simp| false=>simp only[o6,Eb]at aN;have aa:=Wr aN.2;have af:d.name.data.toList.length=d.name.size:=rfl;simp only[bf,cP,eQ,ih];omega
def ago(bM:hU I a1){d:bI}(ag:d.ok I)(aw:d.t.n<=1024):Spec Tryz.prog 132 [d.val] I [] λr I' M'=>r=.string (strOf (uo a1 d))/\(∀ b o,I b=some o->I' b=some o)/\M'=[]:=by
 refine b4 [] aU Tryz.func132 rfl rfl rfl ?_;intro B ao;refine a0.mk [] [] _ (.refl _) (agm bM ag.t aw) ?_;rintro v dO M1 -⟨rfl,dd,rfl⟩;refine b2.mk (λU=>?_) (λU=>?_)
 ·refine a0.mk [] [] _ (.refl _) (OA _ d.name) ?_;rintro v I' M' -⟨rfl,rfl,rfl⟩;refine aJ.mk (λaa=>?_) (λaa=>?_)
  ·refine⟨_,_,.refl,?_,dd,rfl⟩;have:uo a1 d=[]:=by unfold uo;rw[U,aa];rfl
   rw[this];rfl
  ·have hm:m3 d.name=true:=by simpa using aa
   have aa:=Wr hm;have af:d.name.data.toList.length=d.name.size:=rfl;have aP:=Wc a1 d.t;have bq:=ag.t.n;refine fM.concat (a:=d.name) (b:=strOf [32,60,45,32]) (by show _+4<=_;omega) ?_;refine fM.concat (a:=d.name++strOf [32,60,45,32]) (b:=strOf (rX a1 d.t)) (by rw[Kq];show _+4+(rX a1 d.t).length<=_;omega) ?_;refine fM.concat (a:=d.name++strOf [32,60,45,32]++strOf (rX a1 d.t)) (b:=strOf [10]) (by rw[Kq,Kq];show _+4+(rX a1 d.t).length+1<=_;omega) ?_;refine⟨_,_,.refl,?_,dd,rfl⟩;refine congrArg Value.string (Ef ?_);rw[uo,U,hm];simp[strOf]
 ·refine⟨_,_,.refl,?_,dd,rfl⟩;have:uo a1 d=[]:=by unfold uo;rw[U];rfl
  rw[this];rfl
def yL(a1:List Int):List bI->List UInt8->List UInt8
 |[],aZ=>aZ| d::ds,aZ=>bif decide (strOf (uo a1 d)=⟨#[]⟩)then []else yL a1 ds (aZ++uo a1 d)
def agp(bM:hU I a1){g:dn}(aA:g.ok I)(aw:g.n<=64)(av:∀ d∈g.ds,d.t.n<=1024):Spec Tryz.prog 89 [g.val] I [] λr I' M'=>r=.string (strOf (yL a1 g.ds []))/\(∀ b o,I b=some o->I' b=some o)/\M'=[]:=by
 refine b4 [3] aU Tryz.func89 rfl rfl rfl ?_;intro B ao;have gB:=aA.n;have z5:∀ d∈g.ds,d.t.ns.length<=1024:=λd ag=>by rw[(aA.ds d ag).t.n];exact av d ag
 refine cv.mk λb ah BT=>?_;refine dG.inv (ι:=Nat×gv×aR) (λp=>{ bx:=[(3,.val (ptr b)),(8,.val (.slice g.a g.n g.c)),(9,.val (.int .i64 g.n)),(10,.val (.int .i64 p.1))],c2:=p.2.2,du:=p.2.1.M b }) (λp=>p.1<=g.n/\p.2.1.ok/\(∀ b o,I b=some o->p.2.2 b=some o)/\p.2.1.cO.length<=2500000*p.1/\yL a1 g.ds []=yL a1 (g.ds.drop p.1) p.2.1.cO) (λp=>g.n-p.1) ?_ ?_
 ·exact⟨(0,gv.new,I),⟨by simp,gv.Kx,λ_ _ h=>h,by simp[gv.new],rfl⟩,.refl,fO,.nil⟩
 ·rintro⟨i,x,dO⟩⟨hi,ab,dd,hc,m8⟩;simp only at hi ab dd hc m8;refine aJ.mk (λh=>?_) (λh=>?_)
  ·have aS:i<g.n:=by simpa using h
   have b':i<g.ds.length:=by omega
   have nQ:=aA.mono dd;obtain⟨ad,bP,bu⟩:=nQ.bg.row bI.de aS b';have eE:g.ds[i]∈g.ds:=cC b';have yM:=agn a1 g.ds[i];have fI:=z5 _ eE;have k8:g.ds.drop i=g.ds[i]::g.ds.drop (i+1):=e8 b';refine bk.mk ad i bP rfl aS ?_;refine aK.mk _ (bu _) ?_;refine a0.mk [] (x.M b) _ (.refl _) (ago (bM.mono dd) (nQ.ds _ eE) (av _ eE)) ?_;rintro v fE ey -⟨rfl,iL,rfl⟩;refine aJ.mk (λU=>?_) (λU=>?_);·refine⟨_,_,.sub (fw _) .refl,?_,λb o h=>iL _ _ (dd _ _ h),rfl⟩;rw[m8,k8,yL,U];rfl
   ·refine a0.mk (x.M b) [] _ (by simp) (vC b ab _ (by show _+(uo a1 g.ds[i]).length<=_;omega)) ?_;rintro v I' M' -⟨rfl,rfl,y,aH,hb,rfl⟩;have Ws:y.cO=x.cO++uo a1 g.ds[i]:=hb;have gu:IntKind.i64.wrap ((i:Int)+1)=((i+1:Nat):Int):=by rw[wrap_i64 ⟨by omega,by omega⟩];omega
    refine bc.mk _ gu ?_;refine⟨(i+1,y,_),⟨⟨by simp only;omega,aH,λb o h=>iL _ _ (dd _ _ h),?_,?_⟩,by simp only;omega⟩,.perm (by simp) .refl,fO,.nil⟩;·simp only;rw[Ws,cP];omega
    ·simp only;rw[m8,k8,yL,U,Ws];rfl
  ·have cm:g.n<=i:=by simpa using h
   have dy:g.ds.drop i=[]:=jT (by omega);refine a0.mk (x.M b) [] _ (by simp) (yG b ab (by omega)) ?_;rintro v I' M' -⟨rfl,rfl,rfl⟩;refine⟨_,_,.refl,?_,dd,by simp⟩;rw[m8,dy];rfl
def agq(bM:hU I a1){g:dn}(aA:g.ok I)(aw:g.n<=64)(av:∀ d∈g.ds,d.t.n<=1024):Spec Tryz.prog 42 [g.val] I [] λr I' M'=>r=.int .i64 ((yL a1 g.ds []).length:Int)/\(∀ b o,I b=some o->I' b=some o)/\M'=[]:=by refine b4 [] aU Tryz.func42 rfl rfl rfl ?_;intro B ao;refine a0.mk [] [] _ (.refl _) (agp bM aA aw av) ?_;rintro v I' M' -⟨rfl,bL,rfl⟩;exact⟨_,_,.refl,rfl,bL,rfl⟩
def qa(ns:List aM)(kind:Int):List Int->Bool
 |[]=>true| k::ks=>bif decide (pi ns k=kind)||(decide (pi ns k=0)&&decide (kind=4))then false else qa ns kind ks
def qS(ns:List aM):List aM->Bool
 |[]=>true| d::ds=>bif !decide (d.k=4) && !decide (d.k=5)then qS ns ds else bif qa ns d.k d.ax then qS ns ds else false
def normal(t:bN):Bool:=right t&&qS t.ns t.ns
def cF(h:i<=140737488355328):IntKind.i64.wrap ((i:Int)+1)=((i+1:Nat):Int):=by rw[wrap_i64 ⟨by omega,by omega⟩];omega
def agr(aN:pe I){t:bN}(av:t.ok I):Spec Tryz.prog 96 [t.val] I [] (λv I' M'=>v=.bool (normal t)/\I'=I/\M'=[]):=by
 refine b4 [] aU Tryz.func96 rfl rfl rfl ?_;intro B ao;have aw:=av.n;have ig:=av.bg.cap;refine a0.mk [] [] _ (.refl _) (w5 aN av) ?_;rintro v I' M' -⟨rfl,rfl,rfl⟩;refine aJ.mk (λh=>?_) (λh=>?_)
 ·refine⟨_,_,.refl,?_,rfl,rfl⟩;simp[normal,show right t=false by simpa using h]
 ·have ai:right t=true:=by simpa using h
  have ee:normal t=qS t.ns t.ns:=by simp[normal,ai]
  rw[ee];refine dG.inv (ι:=Nat) (λi=>{ bx:=[(1,.ref 1 0),(12,.val (.slice t.a t.n t.c)),(13,.val (.int .i64 t.n)),(14,.val (.int .i64 i))],cl:=[(1,t.cells)],c2:=I' }) (λi=>i<=t.n/\qS t.ns t.ns=qS t.ns (t.ns.drop i)) (λi=>t.n-i) ?_ ?_;·exact⟨0,⟨by simp,rfl⟩,.refl,fO,.cons rfl .nil⟩
  ·rintro i⟨hi,hV⟩;refine aJ.mk (λh=>?_) (λh=>?_)
   ·have aS:i<t.n:=by simpa using h
    have b':i<t.ns.length:=by omega
    obtain⟨ad,bP,bu⟩:=av.bg.row aM.de aS b';have hN:=av.ns t.ns[i] (cC b');have cY:=hN.kn;have k8:t.ns.drop i=t.ns[i]::t.ns.drop (i+1):=e8 b';refine bk.mk ad i bP rfl aS ?_;refine aK.mk _ (bu _) ?_;refine b2.mk (λeJ=>?_) (λeJ=>?_)
    ·refine aJ.mk (λcU=>?_) (λcU=>?_)
     ·refine bc.mk _ (cF (i:=i) (by omega)) ?_;refine⟨i+1,⟨⟨by omega,?_⟩,by omega⟩,.refl,fO,.cons rfl .nil⟩;rw[hV,k8,qS,eJ,cU];rfl
     ·have oF:qS t.ns t.ns=bif qa t.ns t.ns[i].k t.ns[i].ax then qS t.ns (t.ns.drop (i+1))else false:=by rw[hV,k8,qS,eJ,cU];rfl
      refine dG.inv (ι:=Nat) (λj=>{ bx:=[(1,.ref 1 0),(4,.ref 4 0),(12,.val (.slice t.a t.n t.c)),(13,.val (.int .i64 t.n)),(14,.val (.int .i64 i)),(27,.val (.slice t.ns[i].iW t.ns[i].kn t.ns[i].iz)),(28,.val (.int .i64 t.ns[i].kn)),(29,.val (.int .i64 j))],cl:=[(1,t.cells),(4,t.ns[i].cells)],c2:=I' }) (λj=>j<=t.ns[i].kn/\qa t.ns t.ns[i].k t.ns[i].ax=qa t.ns t.ns[i].k (t.ns[i].ax.drop j)) (λj=>t.ns[i].kn-j) ?_ ?_;·exact⟨0,⟨by simp,rfl⟩,.refl,qA,.cons rfl (.cons rfl .nil)⟩
      ·rintro j⟨aj,pt⟩;refine aJ.mk (λh=>?_) (λh=>?_)
       ·have gz:j<t.ns[i].kn:=by simpa using h
        have pf:j<t.ns[i].ax.length:=by omega
        obtain⟨eK,fG,e0⟩:=hN.bg.one gz pf;have fH:t.ns[i].ax.drop j=t.ns[i].ax[j]::t.ns[i].ax.drop (j+1):=e8 pf;have gq:=mz ai i b' _ (cC pf);generalize iY:t.ns[i].ax[j]=ags at *;obtain⟨q,rfl⟩:=g' gq.1;have eS:q<t.ns.length:=by omega
        have po:q<t.n:=by omega
        obtain⟨r0,yJ,yK⟩:=av.bg.row aM.de po eS;have lC:∀ M,cq I' M ((r0.add (q*9)).add 0) 1 [.int .u8 t.ns[q].k]:=λM=>(yK M).part (k:=0) (m:=1) (by decide);have vM:pi t.ns ((q:Nat):Int)=t.ns[q].k:=by simp[pi,cS,eS]
        have bad:(decide (t.ns[q].k=t.ns[i].k)||(decide (t.ns[q].k=0)&&decide (t.ns[i].k=4)))=true->qS t.ns t.ns=false:=λah=>by rw[oF,pt,fH,qa,vM,ah];rfl
        have He:(decide (t.ns[q].k=t.ns[i].k)||(decide (t.ns[q].k=0)&&decide (t.ns[i].k=4)))=false->qa t.ns t.ns[i].k t.ns[i].ax=qa t.ns t.ns[i].k (t.ns[i].ax.drop (j+1)):=λah=>by rw[pt,fH,qa,vM,ah];rfl
        have gu:=cF (i:=j) (by have:=hN.bg.cap;omega);refine bk.mk eK j fG rfl gz ?_;refine aK.mk _ (e0 _) ?_;refine bk.mk r0 q yJ rfl po ?_;refine aK.mk _ (lC _) ?_;refine b2.mk (λeY=>?_) (λeY=>?_)
        ·refine b2.mk (λdS=>?_) (λdS=>?_)
         ·refine aJ.mk (λs6=>?_) (λs6=>?_)
          ·refine⟨_,_,.refl,?_,rfl,rfl⟩;rw[bad (by rw[eY,dS,s6];rfl)]
          ·refine bc.mk _ gu ?_;exact⟨j+1,⟨⟨by omega,He (by rw[eY,dS,s6];rfl)⟩,by omega⟩,.refl,qA,.cons rfl (.cons rfl .nil)⟩
         ·refine bc.mk _ gu ?_;exact⟨j+1,⟨⟨by omega,He (by rw[eY,dS];rfl)⟩,by omega⟩,.refl,qA,.cons rfl (.cons rfl .nil)⟩
        ·refine⟨_,_,.refl,?_,rfl,rfl⟩;rw[bad (by rw[eY];rfl)]
       ·have BV:t.ns[i].ax.drop j=[]:=jT (by simp at h;omega);refine bc.mk _ (cF (i:=i) (by omega)) ?_;refine⟨i+1,⟨⟨by omega,?_⟩,by omega⟩,.refl,fO,.cons rfl .nil⟩;rw[oF,pt,BV];rfl
    ·have oF:qS t.ns t.ns=bif qa t.ns t.ns[i].k t.ns[i].ax then qS t.ns (t.ns.drop (i+1))else false:=by rw[hV,k8,qS,eJ];rfl
     refine dG.inv (ι:=Nat) (λj=>{ bx:=[(1,.ref 1 0),(4,.ref 4 0),(12,.val (.slice t.a t.n t.c)),(13,.val (.int .i64 t.n)),(14,.val (.int .i64 i)),(27,.val (.slice t.ns[i].iW t.ns[i].kn t.ns[i].iz)),(28,.val (.int .i64 t.ns[i].kn)),(29,.val (.int .i64 j))],cl:=[(1,t.cells),(4,t.ns[i].cells)],c2:=I' }) (λj=>j<=t.ns[i].kn/\qa t.ns t.ns[i].k t.ns[i].ax=qa t.ns t.ns[i].k (t.ns[i].ax.drop j)) (λj=>t.ns[i].kn-j) ?_ ?_;·exact⟨0,⟨by simp,rfl⟩,.refl,qA,.cons rfl (.cons rfl .nil)⟩
     ·rintro j⟨aj,pt⟩;refine aJ.mk (λh=>?_) (λh=>?_)
      ·have gz:j<t.ns[i].kn:=by simpa using h
       have pf:j<t.ns[i].ax.length:=by omega
       obtain⟨eK,fG,e0⟩:=hN.bg.one gz pf;have fH:t.ns[i].ax.drop j=t.ns[i].ax[j]::t.ns[i].ax.drop (j+1):=e8 pf;have gq:=mz ai i b' _ (cC pf);generalize iY:t.ns[i].ax[j]=ags at *;obtain⟨q,rfl⟩:=g' gq.1;have eS:q<t.ns.length:=by omega
       have po:q<t.n:=by omega
       obtain⟨r0,yJ,yK⟩:=av.bg.row aM.de po eS;have lC:∀ M,cq I' M ((r0.add (q*9)).add 0) 1 [.int .u8 t.ns[q].k]:=λM=>(yK M).part (k:=0) (m:=1) (by decide);have vM:pi t.ns ((q:Nat):Int)=t.ns[q].k:=by simp[pi,cS,eS]
       have bad:(decide (t.ns[q].k=t.ns[i].k)||(decide (t.ns[q].k=0)&&decide (t.ns[i].k=4)))=true->qS t.ns t.ns=false:=λah=>by rw[oF,pt,fH,qa,vM,ah];rfl
       have He:(decide (t.ns[q].k=t.ns[i].k)||(decide (t.ns[q].k=0)&&decide (t.ns[i].k=4)))=false->qa t.ns t.ns[i].k t.ns[i].ax=qa t.ns t.ns[i].k (t.ns[i].ax.drop (j+1)):=λah=>by rw[pt,fH,qa,vM,ah];rfl
       have gu:=cF (i:=j) (by have:=hN.bg.cap;omega);refine bk.mk eK j fG rfl gz ?_;refine aK.mk _ (e0 _) ?_;refine bk.mk r0 q yJ rfl po ?_;refine aK.mk _ (lC _) ?_;refine b2.mk (λeY=>?_) (λeY=>?_)
       ·refine b2.mk (λdS=>?_) (λdS=>?_)
        ·refine aJ.mk (λs6=>?_) (λs6=>?_)
         ·refine⟨_,_,.refl,?_,rfl,rfl⟩;rw[bad (by rw[eY,dS,s6];rfl)]
         ·refine bc.mk _ gu ?_;exact⟨j+1,⟨⟨by omega,He (by rw[eY,dS,s6];rfl)⟩,by omega⟩,.refl,qA,.cons rfl (.cons rfl .nil)⟩
        ·refine bc.mk _ gu ?_;exact⟨j+1,⟨⟨by omega,He (by rw[eY,dS];rfl)⟩,by omega⟩,.refl,qA,.cons rfl (.cons rfl .nil)⟩
       ·refine⟨_,_,.refl,?_,rfl,rfl⟩;rw[bad (by rw[eY];rfl)]
      ·have BV:t.ns[i].ax.drop j=[]:=jT (by simp at h;omega);refine bc.mk _ (cF (i:=i) (by omega)) ?_;refine⟨i+1,⟨⟨by omega,?_⟩,by omega⟩,.refl,fO,.cons rfl .nil⟩;rw[oF,pt,BV];rfl
   ·have cm:t.n<=i:=by simpa using h
    have dy:t.ns.drop i=[]:=jT (by omega);refine⟨_,_,.refl,?_,rfl,rfl⟩;rw[hV,dy];rfl
def xg(t:bN):Nat:=bif right t then t.n else 0
def Cg(g:dn):Nat:=(g.ds.map λd=>xg d.t).sum
def Wt{α:Type}(f:α->Nat)(m:Nat):∀ (l:List α),(∀ x∈l,f x<=m)->(l.map f).sum<=m*l.length
 |[],_=>by simp
 |x::l,h=>by have U:=h x (by simp);have aa:=Wt f m l λy aH=>h y (by simp[aH]);simp only[dv,pg,eQ,Nat.mul_add];omega
def agt(aN:pe I){g:dn}(aA:g.ok I)(aw:g.n<=64)(av:∀ d∈g.ds,d.t.n<=1024):Spec Tryz.prog 38 [g.val] I [] (λv I' M'=>v=.int .i64 (Cg g:Nat)/\I'=I/\M'=[]):=by
 refine b4 [] aU Tryz.func38 rfl rfl rfl ?_;intro B ao;have gB:=aA.n;refine dG.inv (ι:=Nat) (λi=>{ bx:=[(3,.val (.int .i64 (((g.ds.take i).map λd=>xg d.t).sum:Nat))),(7,.val (.slice g.a g.n g.c)),(8,.val (.int .i64 g.n)),(9,.val (.int .i64 i))],c2:=I }) (λi=>i<=g.n) (λi=>g.n-i) ?_ ?_
 ·exact⟨0,by simp,.refl,fO,.nil⟩
 ·intro i hi;refine aJ.mk (λh=>?_) (λh=>?_)
  ·have aS:i<g.n:=by simpa using h
   have b':i<g.ds.length:=by omega
   obtain⟨ad,bP,bu⟩:=aA.bg.row bI.de aS b';have eE:g.ds[i]∈g.ds:=cC b';have ar:((g.ds.take i).map λd=>xg d.t).sum<=1024*(g.ds.take i).length:=Wt _ 1024 _ λd ag=>by
    have:=av d (w6 ag);unfold xg;cases right d.t<;>simp
    omega
   have ap:=GS i g.ds;have gj:xg g.ds[i].t<=1024:=by
    have:=av _ eE;unfold xg;cases right g.ds[i].t<;>simp
    omega
   refine bk.mk ad i bP rfl aS ?_;refine aK.mk _ (bu _) ?_;refine a0.mk [] [] _ (.refl _) (afC aN (aA.ds _ eE).t) ?_;rintro v I' M' -⟨rfl,rfl,rfl⟩;have az:(bif right g.ds[i].t then(g.ds[i].t.n:Int)else 0)=(xg g.ds[i].t:Nat):=by
    unfold xg;cases right g.ds[i].t<;>rfl
   rw[az];refine bc.mk ((((g.ds.take (i+1)).map λd=>xg d.t).sum:Nat):Int) ?_ ?_;·rw[wrap_i64 ⟨by omega,by omega⟩,ho b',fi,Kt];simp
   refine bc.mk _ (cF (i:=i) (by omega)) ?_;exact⟨i+1,⟨by omega,by omega⟩,.refl,fO,.nil⟩
  ·have cm:g.n<=i:=by simpa using h
   refine⟨_,_,.refl,?_,rfl,rfl⟩;rw[fq (by omega)];rfl
def qT(a1:List Int)(g:dn):Bool:=
 decide (64<g.n)||((!g.ds.all λd=>l2 d.t)||(decide (1024<Cg g)||decide (8192<(yL a1 g.ds []).length)))
def agu(bM:hU I a1){g:dn}(aA:g.ok I):Spec Tryz.prog 97 [g.val] I [] (λv I' M'=>v=.bool (qT a1 g)/\(∀ b o,I b=some o->I' b=some o)/\M'=[]):=by
 refine b4 [] aU Tryz.func97 rfl rfl rfl ?_;intro B ao;have gB:=aA.n;refine aJ.mk (λU=>?_) (λU=>?_)
 ·refine⟨_,_,.refl,?_,λ_ _ h=>h,rfl⟩;have:64<g.n:=by simp at U;omega
  simp[qT,this]
 ·have aw:g.n<=64:=by simp at U;omega
  have cJ:qT a1 g=((!g.ds.all λd=>l2 d.t)||(decide (1024<Cg g)||decide (8192<(yL a1 g.ds []).length))):=by
   have:¬ 64<g.n:=by omega
   simp[qT,this]
  rw[cJ];refine dG.inv (ι:=Nat) (λi=>{ bx:=[(1,.ref 1 0),(10,.val (.slice g.a g.n g.c)),(11,.val (.int .i64 g.n)),(12,.val (.int .i64 i))],cl:=[(1,[.slice g.a g.n g.c])],c2:=I }) (λi=>i<=g.n/\(g.ds.take i).all (λd=>l2 d.t)=true) (λi=>g.n-i) ?_ ?_;·exact⟨0,⟨by simp,rfl⟩,.refl,fO,.cons rfl .nil⟩
  ·rintro i⟨hi,ej⟩;refine aJ.mk (λh=>?_) (λh=>?_)
   ·have aS:i<g.n:=by simpa using h
    have b':i<g.ds.length:=by omega
    obtain⟨ad,bP,bu⟩:=aA.bg.row bI.de aS b';have eE:g.ds[i]∈g.ds:=cC b';refine bk.mk ad i bP rfl aS ?_;refine aK.mk _ (bu _) ?_;refine a0.mk [] [] _ (.refl _) (VG bM.c (aA.ds _ eE).t) ?_;rintro v I' M' -⟨rfl,rfl,rfl⟩;refine aJ.mk (λaa=>?_) (λaa=>?_)
    ·refine⟨_,_,.refl,?_,λ_ _ h=>h,rfl⟩;have aC:l2 g.ds[i].t=false:=by simpa using aa
     have:(g.ds.all λd=>l2 d.t)=false:=by rw[Ks];exact⟨_,eE,by simp[aC]⟩
     rw[this];rfl
    ·have aC:l2 g.ds[i].t=true:=by simpa using aa
     refine bc.mk _ (cF (i:=i) (by omega)) ?_;refine⟨i+1,⟨⟨by omega,?_⟩,by omega⟩,.refl,fO,.cons rfl .nil⟩;rw[ho b',GW,ej];simp[aC]
   ·have cm:g.n<=i:=by simpa using h
    rw[fq (by omega)]at ej;rw[ej];have Wu:∀ d∈g.ds,d.t.n<=1024:=λd ag=>by have:=gh.1 ej d ag;unfold l2 at this;simp only[cp,e5]at this;exact this.1
    refine a0.mk [] [] _ (.refl _) (agt bM.c aA aw Wu) ?_;rintro v I' M' -⟨rfl,rfl,rfl⟩;refine b2.mk (λaa=>?_) (λaa=>?_)
    ·refine a0.mk [] [] _ (.refl _) (agq bM aA aw Wu) ?_;rintro v fE M' -⟨rfl,iL,rfl⟩;refine⟨_,_,.refl,?_,iL,rfl⟩;have qN:¬ 1024<Cg g:=by simp at aa;omega
     simp[qN];omega
    ·refine⟨_,_,.refl,?_,λ_ _ h=>h,rfl⟩;have qN:1024<Cg g:=by simp at aa;omega
     simp[qN]
def df(name:ByteArray):List bI->Nat->Int
 |[],_=>-1| d::ds,i=>bif decide (d.name=name)then(i:Int)else df name ds (i+1)
def Wv{g:dn}(aA:g.ok I)(name:ByteArray):Spec Tryz.prog 34 [g.val,.string name] I [] (λv I' M'=>v=.int .i64 (df name g.ds 0)/\I'=I/\M'=[]):=by
 refine b4 [] aU Tryz.func34 rfl rfl rfl ?_;intro B ao;have gB:=aA.n;have ig:=aA.bg.cap;refine dG.inv (ι:=Nat) (λi=>{ bx:=[(1,.val (.string name)),(8,.val (.slice g.a g.n g.c)),(9,.val (.int .i64 g.n)),(10,.val (.int .i64 i))],c2:=I }) (λi=>i<=g.n/\df name g.ds 0=df name (g.ds.drop i) i) (λi=>g.n-i) ?_ ?_
 ·exact⟨0,⟨by simp,rfl⟩,.refl,fO,.nil⟩
 ·rintro i⟨hi,aC⟩;refine aJ.mk (λh=>?_) (λh=>?_)
  ·have aS:i<g.n:=by simpa using h
   have b':i<g.ds.length:=by omega
   obtain⟨ad,bP,bu⟩:=aA.bg.row bI.de aS b';have k8:g.ds.drop i=g.ds[i]::g.ds.drop (i+1):=e8 b';refine bk.mk ad i bP rfl aS ?_;refine aK.mk _ (bu _) ?_;refine aJ.mk (λaa=>?_) (λaa=>?_);·refine⟨_,_,.refl,?_,rfl,rfl⟩;rw[aC,k8,df,aa];rfl
   ·refine bc.mk _ (cF (i:=i) (by omega)) ?_;refine⟨i+1,⟨⟨by omega,?_⟩,by omega⟩,.refl,fO,.nil⟩;rw[aC,k8,df,aa];rfl
  ·have cm:g.n<=i:=by simpa using h
   refine⟨_,_,.refl,?_,rfl,rfl⟩;rw[aC,jT (by omega)];rfl
def drop_cons{L:List α}{x:α}{bd:List α}(h:L.drop k=x::bd):∃ ae:k<L.length,L[k]=x/\L.drop (k+1)=bd:=by
 have ae:k<L.length:=by apply Nat.lt_of_not_le;intro bn;rw[jT bn]at h;cases h
 have ag:=e8 ae;rw[h]at ag;obtain⟨U,aa⟩:=List.cons.inj ag;exact⟨ae,U.symm,aa.symm⟩
def uq:Nat->List bI->List (List Value)
 |_,[]=>[]| i,d::ds=>d.t.ns.map (λn=>[.int .i64 i,n.val])++uq (i+1) ds
def agv(g:dn):Spec Tryz.prog 98 [g.val] I [] λr I' M'=>∃ b,r=.func (.func 143) #[] #[ptr b]/\I' b=some (.cells #[.slice g.a g.n g.c] 24 (0,0))/\(∀ b o,I b=some o->I' b=some o)/\M'=[]:=by refine b4 [1] aU Tryz.func98 rfl rfl rfl ?_;intro B ao;refine cv.mk λg aA Ed=>?_;exact⟨_,_,.rA rfl (by simp) .refl,g,rfl,uj ..,qP aA,rfl⟩
def agw{g:dn}(aA:g.ok I)(ah:I b=some (.cells #[.slice g.a g.n g.c] 24 (0,0))) :
  Iter Tryz.prog 143 [ptr b] I (uq 0 g.ds):=by
 intro l R vy z0 er M0 sX lY;refine Gp [] aU Tryz.func143 rfl rfl rfl ?_;intro B ao;have gB:=aA.n;have ig:=aA.bg.cap;have bu:∀ (M:List aI),cq er M ((⟨b,0,none⟩:Addr).add 0) 1 [.slice g.a g.n g.c]:=λM=>⟨rfl,_,_,_,.inl (sX _ _ ah),rfl,rfl⟩;refine aK.mk _ (bu _) ?_;refine dG.inv (ι:=Nat×Nat×aR×List aI) (λx=>{ bx:=[(0,.val (.func (.yield l) #[] #[])),(8,.val (.slice g.a g.n g.c)),(9,.val (.int .i64 g.n)),(10,.val (.int .i64 x.1))],c2:=x.2.2.1,du:=x.2.2.2 }) (λx=>x.1<=g.n/\(∀ b o,I b=some o->x.2.2.1 b=some o)/\R x.2.1 x.2.2.1 x.2.2.2/\x.2.1<=(uq 0 g.ds).length/\(uq 0 g.ds).drop x.2.1=uq x.1 (g.ds.drop x.1)) (λx=>g.n-x.1) ?_ ?_
 ·exact⟨(0,0,er,M0),⟨by simp,sX,lY,by simp,rfl⟩,.refl,fO,.nil⟩
 ·rintro⟨i,k,dO,M1⟩⟨hi,dd,nO,ep,iX⟩;simp only at hi dd nO ep iX;refine aJ.mk (λh=>?_) (λh=>?_)
  ·have aS:i<g.n:=by simpa using h
   have b':i<g.ds.length:=by omega
   have nQ:=aA.mono dd;obtain⟨ad,bP,O7⟩:=nQ.bg.row bI.de aS b';have eE:g.ds[i]∈g.ds:=cC b';have k':=(aA.ds _ eE).t.n;have agx:=(aA.ds _ eE).t.bg.cap;have k8:g.ds.drop i=g.ds[i]::g.ds.drop (i+1):=e8 b';refine bk.mk ad i bP rfl aS ?_;refine aK.mk _ (O7 _) ?_;refine dG.inv (ι:=Nat×Nat×aR×List aI) (λx=>{ bx:=[(0,.val (.func (.yield l) #[] #[])),(3,.val (.int .i64 i)),(8,.val (.slice g.a g.n g.c)),(9,.val (.int .i64 g.n)),(10,.val (.int .i64 i)),(17,.val (.slice g.ds[i].t.a g.ds[i].t.n g.ds[i].t.c)),(18,.val (.int .i64 g.ds[i].t.n)),(19,.val (.int .i64 x.1))],c2:=x.2.2.1,du:=x.2.2.2 }) (λx=>x.1<=g.ds[i].t.n/\(∀ b o,I b=some o->x.2.2.1 b=some o)/\R x.2.1 x.2.2.1 x.2.2.2/\x.2.1<=(uq 0 g.ds).length/\(uq 0 g.ds).drop x.2.1=(g.ds[i].t.ns.drop x.1).map (λn=>[.int .i64 i,n.val])++uq (i+1) (g.ds.drop (i+1))) (λx=>g.ds[i].t.n-x.1) ?_ ?_;·refine⟨(0,k,dO,M1),⟨by simp,dd,nO,ep,?_⟩,.refl,qA,.nil⟩;simp only;rw[iX,k8];rfl
   ·rintro⟨j,k,dO,M1⟩⟨aj,dd,nO,ep,iX⟩;simp only at aj dd nO ep iX;refine aJ.mk (λh=>?_) (λh=>?_)
    ·have gz:j<g.ds[i].t.n:=by simpa using h
     have pf:j<g.ds[i].t.ns.length:=by omega
     have nQ:=aA.mono dd;obtain⟨fU,Ch,jV⟩:=(nQ.ds _ eE).t.bg.row aM.de gz pf;have cf:g.ds[i].t.ns.drop j=g.ds[i].t.ns[j]::g.ds[i].t.ns.drop (j+1):=e8 pf;rw[cf,dv,rU]at iX;obtain⟨ae,ak,qb⟩:=drop_cons iX;refine bk.mk fU j Ch rfl gz ?_;refine aK.mk _ (jV _) ?_;refine bs.yield rfl (by simp) rfl rfl ?_;have aH:=z0 k ae dO M1 dd nO;rw[ak]at aH;refine Kk.mk M1 [] _ (by simp) aH ?_;rintro v fE ey iL (⟨rfl,rP⟩ | ⟨rfl,ab⟩);·refine aJ.mk (λh=>by simp at h) (λ_=>?_);refine bc.mk _ (cF (i:=j) (by omega)) ?_;exact⟨(j+1,k+1,fE,ey),⟨⟨by simp only;omega,λb o h=>iL b o (dd b o h),rP,ae,qb⟩,by simp only;omega⟩,.perm (by simp) .refl,qA,.nil⟩
     ·refine aJ.mk (λ_=>?_) (λh=>by simp at h);exact⟨_,_,.perm (by simp) .refl,.inr ab⟩
    ·have cm:g.ds[i].t.n<=j:=by simpa using h
     rw[jT (show g.ds[i].t.ns.length<=j by omega),jh,kN]at iX;refine bc.mk _ (cF (i:=i) (by omega)) ?_;exact⟨(i+1,k,dO,M1),⟨⟨by simp only;omega,dd,nO,ep,iX⟩,by simp only;omega⟩,.refl,fO,.nil⟩
  ·have cm:g.n<=i:=by simpa using h
   refine⟨_,_,.refl,.inl ?_⟩;rw[jT (show g.ds.length<=i by omega)]at iX;have B3:k=(uq 0 g.ds).length:=by have:=OI.1 iX;omega
   rw[<-B3];exact nO
section
variable{X:c7}{β:Nat->Nat}{a:Act}{w:World}{F:Fr}{C:d'}{I:aR}{M:List aI}{o:Oper}{K:gp}
def cR.swap{n:Nat}{nL KQ:Obj}{w':World}(h:cR X β a w F C I (⟨n,nL⟩::M))(ar:w'.heap.size=w.heap.size)(aw:w'.heap[n]?=some KQ)(ah:∀ b,b≠n->w'.heap[b]?=w.heap[b]?)(au:o1 w w'):cR X β a w' F C I (⟨n,KQ⟩::M):=by
 have U:=h.Vd ar ah au;have fT:(⟨n,nL⟩:aI)∈(⟨n,nL⟩:aI)::M:=by simp
 have cf:=h.holds.cd;simp only[dv,nB]at cf;have mem:∀ x,x∈(⟨n,KQ⟩:aI)::M->x=⟨n,KQ⟩\/x∈M:=λx ab=>eL.1 ab;exact {
  size:=U.size
  defers:=by
   obtain⟨bg,az,aF,bo⟩:=U.defers;obtain⟨agy,f1,f2,f3⟩:=h.defers;refine⟨bg,az,aF,λr ai=>{ bo r ai with e3:=λx ab=>?_ }⟩;rcases mem x ab with rfl | ab
   ·have dw:bg=agy:=by
     have:=az.symm.trans f1;have Ci:∀ l l':List Nat,l.map yh=l'.map yh->l=l':=by
      intro l
      induction l with
      |nil=>intro l' h;cases l' with
       |nil=>rfl| cons=>simp at h
      |cons y l a7=>intro l' h;cases l' with
       |nil=>simp at h
       |cons z l'=>
        simp only[dv,w7,yh,Deferred.mk.injEq]at h;have aH:y=z:=by simpa using h.1
        rw[aH,a7 l' h.2]
     exact Ci _ _ this
    subst dw;exact(f3 r ai).e3 ⟨n,nL⟩ fT
   ·exact(bo r ai).e3 x ab
  holds:={
   i:=U.holds.i
   m:=λx ab=>by
    rcases mem x ab with rfl | ab;·exact aw
    ·exact U.holds.m x ab
   d:=λx ab=>by
    rcases mem x ab with rfl | ab;·exact h.holds.d ⟨n,nL⟩ fT
    ·exact U.holds.d x ab
   cd:=by simpa using cf }
  al:=h.al
  cw:=λs cs mo=>by
   have rH:=h.cw s cs mo;refine { U.cw s cs mo with e3:=λx ab=>?_ };rcases mem x ab with rfl | ab;·exact rH.e3 ⟨n,nL⟩ fT
   ·exact(U.cw s cs mo).e3 x ab
  inj:=h.inj
  iy:=h.iy
  h2:=h.h2
  own:=λx ab=>by
   rcases mem x ab with rfl | ab;·exact h.own ⟨n,nL⟩ fT
   ·exact U.own x ab
  dg:=U.dg
  out:=U.out
  sz:=U.sz }
def pu(l:List (ByteArray×Int)):Nat->List MapEntry
 |i=>match l with
  |[]=>[]| p::l=>{ key:=.string p.1,val:=.int .i64 p.2,born:=i }::pu l (i+1)
def jD(l:List (ByteArray×Int)):Obj:=.map (pu l 0).toArray l.length
def eB(s:ByteArray):List (ByteArray×Int)->Option Int
 |[]=>none| p::l=>bif decide (s=p.1)then some p.2 else eB s l
def agz(l:List (ByteArray×Int))(p:ByteArray×Int):∀ i,pu (l++[p]) i=pu l i++[{ key:=.string p.1,val:=.int .i64 p.2,born:=i+l.length }]:=by
 induction l with
 |nil=>intro i;simp[pu]| cons q l a7=>intro i;simp only[rU,pu,a7,eQ,w7,true_and,List.append_cancel_left_eq,MapEntry.mk.injEq,and_true];omega
def bytes_beq(a b:ByteArray):(a == b)=decide (a=b):=by
 rw[pQ];simp only[e5];constructor
 ·intro h
  first | exact eq_of_beq h | exact wG (eq_of_beq (a:=a.data) (b:=b.data) h)
 ·rintro rfl
  first | exact Gt _ | exact Gt a.data
def KR(s:ByteArray):∀ (l:List (ByteArray×Int)) (i j:Nat),∃ r,Instr.findNow .string (.string s) (pu l i) j=some r/\r.map (·.2)=(eB s l).map (Value.int .i64)
 |[],i,j=>⟨none,rfl,rfl⟩
 |p::l,i,j=>by
  obtain⟨r,U,aa⟩:=KR s l (i+1) (j+1);unfold pu Instr.findNow;simp only[Instr.sameNow,bytes_beq];cases ah:decide (s=p.1)with
  |true=>exact⟨_,rfl,by simp[eB,ah]⟩| false=>exact⟨r,U,by simp only[eB,ah,bf];exact aa⟩
def bs.makeMap(aO:c6 X.P X.E){r:Operand}(au:o.op=.makeMap t (some r))(ag:∀ d,o.dst=some d->d<X.n)(av:X.E t=some dh)(cL:dh.bO=.map k e)
  {q:IntKind} {n:Int} (ai:bG F r=.val (.int q n)) (h:∀ b,K (put o.dst (.val (.map (some b))) F) C I (⟨b,jD []⟩::M)):bs X o F C I M K:=by
 refine⟨λa w Q ⟨β,a4⟩=>?_⟩;obtain⟨d,fy,fz⟩:=(aO _ _ av).fp;have U:d=.map k e:=by rw[cL]at fz;cases d<;>simp_all[fo]
 subst U;have O8:=dk a4.al ai;refine je (by rw[au];simp) (v:=.map (some w.heap.size)) (w':=w.alloc (.map #[] 0)) ?_ ⟨_,_,_,_,⟨β,cR.put (x:=.val (.map (some w.heap.size))) (a4.oq (jD [])) ag rfl⟩,h _⟩;unfold execOp;simp only[au,k3,O8];simp[Instr.makeMap,run_underlying fy,asInt,o3]
def bs.lookup(aO:c6 X.P X.E)(au:o.op=.lookup t x y true)(ag:∀ d,o.dst=some d->d<X.n)(av:X.E t=some dh)(cL:dh.bO=.map k e)(ae:X.E k=some ug)(fm:ug.bO=.string)(a9:∀ w,(zeroValue e).run X.P w=.ok (.int .i64 0) w)(ab:bG F x=.val (.map (some g)))(aH:bG F y=.val (.string s))(a2:(⟨g,jD l⟩:aI)∈M)
  (h:K (put o.dst (.val (.tuple #[.int .i64 ((eB s l).getD 0),.bool (eB s l).isSome])) F) C I M):bs X o F C I M K:=by
 refine⟨λa w Q ⟨β,a4⟩=>?_⟩;obtain⟨d,fy,fz⟩:=(aO _ _ av).fp;have U:d=.map k e:=by rw[cL]at fz;cases d<;>simp_all[fo]
 subst U;obtain⟨la,s7,hN⟩:=(aO _ _ ae).fp;have aa:la=.string:=by rw[fm]at hN;cases la<;>simp_all[fo]
 subst aa;have aA:w.heap[g]?=some (.map (pu l 0).toArray l.length):=a4.holds.m _ a2;have ex:=dk a4.al ab;have pd:=dk a4.al aH;obtain⟨r,wK,oJ⟩:=KR s l 0 0;have aN:(Instr.checkKey (pu l 0).toArray.isEmpty 10000 k (.string s)).run X.P w=.ok () w:=D' (k:=.string s) s7 (by simp[MapKept.IsKey]) _ 9999;have vO:(Instr.findKey k (.string s) (pu l 0)).run X.P w=.ok r w:=Ea s7 wK;have e':(Instr.lookup t (.map (some g)) (.string s) true).run X.P w=.ok (.tuple #[.int .i64 ((eB s l).getD 0),.bool (eB s l).isSome]) w:=by
  unfold Instr.lookup;simp only[cy,run_underlying fy,cc,D9 aA,dc,aN,vO];cases r with
  |none=>
   cases ap:eB s l with
   |none=>simp[a9]| some v=>rw[ap]at oJ;simp at oJ
  |some p=>
   cases ap:eB s l with
   |none=>rw[ap]at oJ;simp at oJ| some v=>rw[ap]at oJ;simp only[k3,kd]at oJ;simp[oJ]
 refine wJ a4 ag (by rw[au];simp) ?_ h;unfold execOp;simp only[au,ex,pd,cy,e',cc,dc]
def bs.Ww(aO:c6 X.P X.E){z:Operand}(au:o.op=.mapUpdate t x y z)(ag:o.dst=none)(av:X.E t=some dh)(cL:dh.bO=.map k e)(ae:X.E k=some ug)(fm:ug.bO=.string)
 {v:Int} (ab:bG F x=.val (.map (some g))) (aH:bG F y=.val (.string s)) (BA:bG F z=.val (.int .i64 v)) (ap:eB s l=none)
  {Mr:List aI} (a2:M.Perm (⟨g,jD l⟩::Mr)) (h:K F C I (⟨g,jD (l++[(s,v)])⟩::Mr)):bs X o F C I M K:=by
 refine⟨λa w Q ⟨β,lY⟩=>?_⟩;have a4:cR X β a w F C I (⟨g,jD l⟩::Mr):=lY.iH (.perm a2 .refl);obtain⟨d,fy,fz⟩:=(aO _ _ av).fp;have U:d=.map k e:=by rw[cL]at fz;cases d<;>simp_all[fo]
 subst U;obtain⟨la,s7,hN⟩:=(aO _ _ ae).fp;have aa:la=.string:=by rw[fm]at hN;cases la<;>simp_all[fo]
 subst aa;have aA:w.heap[g]?=some (.map (pu l 0).toArray l.length):=a4.holds.m ⟨g,jD l⟩ (by simp);have ex:=dk a4.al ab;have pd:=dk a4.al aH;have qc:=dk a4.al BA;obtain⟨r,wK,oJ⟩:=KR s l 0 0;have ai:r=none:=by
  rw[ap]at oJ;cases r with
  |none=>rfl| some _=>simp at oJ
 subst ai;have aN:(Instr.checkKey false 10000 k (.string s)).run X.P w=.ok () w:=D' (k:=.string s) s7 (by simp[MapKept.IsKey]) _ 9999;have vO:(Instr.findKey k (.string s) (pu l 0)).run X.P w=.ok none w:=Ea s7 wK;have gb:jD (l++[(s,v)])=.map ((pu l 0).toArray.push { key:=.string s,val:=.int .i64 v,born:=l.length }) (l.length+1):=by unfold jD;rw[agz];simp
 have e':(Instr.mapUpdate t (.map (some g)) (.string s) (.int .i64 v)).run X.P w=.ok () { w with heap:=w.heap.setIfInBounds g (jD (l++[(s,v)])) }:=by unfold Instr.mapUpdate;simp only[cy,run_underlying fy,cc,D9 aA,aN,vO,OG _ aA,gb]
 have iC:=MapKept.heap_set (o':=jD (l++[(s,v)])) aA;refine DJ (by rw[au];simp) (w':={ w with heap:=w.heap.setIfInBounds g (jD (l++[(s,v)])) }) ?_ ⟨F,C,I,_,⟨β,?_⟩,h⟩
 ·unfold execOp;simp only[au,ex,pd,qc,cy,e',cc,dc]
 ·rw[ag];exact a4.swap (by simp) iC.1 iC.2 ⟨rfl,rfl⟩
end
def vP:Nat->List bI->List (Nat×aM)
 |_,[]=>[]| i,d::ds=>d.t.ns.map (λn=>(i,n))++vP (i+1) ds
def Hf:∀ (ds:List bI) (i:Nat),uq i ds=(vP i ds).map λp=>[.int .i64 p.1,p.2.val]
 |[],i=>rfl| d::ds,i=>by simp only[uq,vP,fi,h7,Hf ds (i+1)];rfl
def s8(ds:List bI):Bool:=ds.all λd=>m3 d.name&&normal d.t
def qU:List (ByteArray×Int)->Nat->List bI->Option (List (ByteArray×Int))
 |aZ,_,[]=>some aZ| aZ,i,d::ds=>bif (eB d.name aZ).isSome then none else qU (aZ++[(d.name,(i:Int))]) (i+1) ds
def z9(aZ:List (ByteArray×Int))(n:aM):Bool:=!decide (n.k=3)||(eB n.t aZ).isSome
def yN(aZ:List (ByteArray×Int))(ds:List bI):Bool:=(vP 0 ds).all λp=>z9 aZ p.2
def gk(a1:List Int)(g:dn):Int:=
 bif decide ((g.n:Int)=0)then 4 else bif !s8 g.ds then 4 else bif qT a1 g then 40 else
 match qU [] 0 g.ds with
 |none=>6| some aZ=>bif yN aZ g.ds then 0 else 41
def vQ(b:Nat)(e:Int):aI:=⟨b,.cells #[.int .i64 e] 31 (0,0)⟩
def Cj{M:List aI}{e:Int}(h:vQ b e∈M):cq I M ⟨b,0,none⟩ 1 [.int .i64 e]:=
 ⟨rfl,_,_,_,.inr ⟨_,h,rfl,rfl⟩,rfl,rfl⟩
def Hg(w:World):(zeroValue 3).run Tryz.prog w=.ok (.int .i64 0) w:=by
 have h:(Tryz.prog.info? 3).map (λi=>i.zero)=some (some (.int .i64 0)):=by kernel_rfl
 obtain⟨i,U,aa⟩:=tI.1 h;simp[zeroValue,typeInfo,U,aa]
def Wx(bM:hU I a1){g:dn}(aA:g.ok I):Spec Tryz.prog 47 [g.val] I [] (λv I' M'=>v=.int .i64 (gk a1 g)/\(∀ b o,I b=some o->I' b=some o)/\M'=[]):=by
 refine b4 [2,5] aU Tryz.func47 rfl rfl rfl ?_;intro B ao;have gB:=aA.n;have ig:=aA.bg.cap;refine cv.mk λcb hL Wy=>?_;refine aJ.mk (λU=>?_) (λU=>?_)
 ·refine cz.mk [] [] _ _ rfl rfl (b0 rfl) rfl ?_;refine aK.mk _ (Cj (b:=cb) (e:=4) (.head _)) ?_;refine⟨_,_,.sub (fw _) .refl,?_,λ_ _ h=>h,rfl⟩;rw[gk,U];rfl
 ·have ki:g.n≠0:=by simp at U;omega
  refine dG.inv (ι:=Nat) (λi=>{ bx:=[(1,.ref 1 0),(2,.val (ptr cb)),(19,.val (.slice g.a g.n g.c)),(20,.val (.int .i64 g.n)),(21,.val (.int .i64 i))],cl:=[(1,[.slice g.a g.n g.c])],c2:=I,du:=[vQ cb 0] }) (λi=>i<=g.n/\s8 (g.ds.take i)=true) (λi=>g.n-i) ?_ ?_;·exact⟨0,⟨by simp,rfl⟩,.refl,hS,.cons rfl .nil⟩
  ·rintro i⟨hi,ej⟩;refine aJ.mk (λh=>?_) (λh=>?_)
   ·have aS:i<g.n:=by simpa using h
    have b':i<g.ds.length:=by omega
    obtain⟨ad,bP,bu⟩:=aA.bg.row bI.de aS b';have eE:g.ds[i]∈g.ds:=cC b';have bad:(m3 g.ds[i].name&&normal g.ds[i].t)=false->gk a1 g=4:=λah=>by
     have:s8 g.ds=false:=by unfold s8;rw[Ks];exact⟨_,eE,by simp[ah]⟩
     rw[gk,U,this];rfl
    refine bk.mk ad i bP rfl aS ?_;refine aK.mk _ (bu _) ?_;refine a0.mk [] [vQ cb 0] _ (.refl _) (OA _ g.ds[i].name) ?_;rintro v I' M' -⟨rfl,rfl,rfl⟩;refine b2.mk (λaa=>?_) (λaa=>?_)
    ·have hm:m3 g.ds[i].name=true:=by simpa using aa
     refine a0.mk [] [vQ cb 0] _ (.refl _) (agr bM.c (aA.ds _ eE).t) ?_;rintro v I' M' -⟨rfl,rfl,rfl⟩;refine aJ.mk (λaf=>?_) (λaf=>?_)
     ·have ee:normal g.ds[i].t=false:=by simpa using af
      refine cz.mk [] [] _ _ rfl rfl (b0 rfl) rfl ?_;refine aK.mk _ (Cj (b:=cb) (e:=4) (.head _)) ?_;refine⟨_,_,.sub (fw _) .refl,?_,λ_ _ h=>h,rfl⟩;rw[bad (by rw[hm,ee];rfl)];rfl
     ·have ee:normal g.ds[i].t=true:=by simpa using af
      refine bc.mk _ (cF (i:=i) (by omega)) ?_;refine⟨i+1,⟨⟨by omega,?_⟩,by omega⟩,.refl,hS,.cons rfl .nil⟩;unfold s8 at ej |-;rw[ho b',GW,ej];simp[hm,ee]
    ·have hm:m3 g.ds[i].name=false:=by simpa using aa
     refine cz.mk [] [] _ _ rfl rfl (b0 rfl) rfl ?_;refine aK.mk _ (Cj (b:=cb) (e:=4) (.head _)) ?_;refine⟨_,_,.sub (fw _) .refl,?_,λ_ _ h=>h,rfl⟩;rw[bad (by rw[hm];rfl)];rfl
   ·have cm:g.n<=i:=by simpa using h
    rw[fq (by omega)]at ej;refine a0.mk [] [vQ cb 0] _ (.refl _) (agu bM aA) ?_;rintro v dO M' -⟨rfl,dd,rfl⟩;refine aJ.mk (λaa=>?_) (λaa=>?_);·refine cz.mk [] [] _ _ rfl rfl (b0 rfl) rfl ?_;refine aK.mk _ (Cj (b:=cb) (e:=40) (.head _)) ?_;refine⟨_,_,.sub (fw _) .refl,?_,dd,rfl⟩;rw[gk,U,ej,aa];rfl
    ·have agA:gk a1 g=match qU [] 0 g.ds with
       |none=>6| some aZ=>bif yN aZ g.ds then 0 else 41:=by
      rw[gk,U,ej,aa];rfl
     rw[agA];have nQ:=aA.mono dd;refine bs.makeMap aU rfl (by simp) rfl rfl rfl λjE=>?_;refine cv.mk λen Hh KS=>?_;refine cz.mk [] [⟨jE,jD []⟩,vQ cb 0] _ _ rfl rfl (b0 rfl) rfl ?_;refine dG.inv (ι:=Nat×List (ByteArray×Int)) (λx=>{ bx:=[(1,.ref 1 0),(2,.val (ptr cb)),(5,.val (ptr en)),(43,.val (.slice g.a g.n g.c)),(44,.val (.int .i64 g.n)),(45,.val (.int .i64 x.1))],cl:=[(1,[.slice g.a g.n g.c])],c2:=dO,du:=[⟨en,.cells #[.map (some jE)] 155 (0,0)⟩,⟨jE,jD x.2⟩,vQ cb 0] }) (λx=>x.1<=g.n/\qU [] 0 g.ds=qU x.2 x.1 (g.ds.drop x.1)) (λx=>g.n-x.1) ?_ ?_;·exact⟨(0,[]),⟨by simp,rfl⟩,.refl,km,.cons rfl .nil⟩
     ·rintro⟨i,aZ⟩⟨hi,p0⟩;simp only at hi p0;refine aJ.mk (λh=>?_) (λh=>?_)
      ·have aS:i<g.n:=by simpa using h
       have b':i<g.ds.length:=by omega
       obtain⟨ad,bP,bu⟩:=nQ.bg.row bI.de aS b';have k8:g.ds.drop i=g.ds[i]::g.ds.drop (i+1):=e8 b';refine bk.mk ad i bP rfl aS ?_;refine aK.mk _ (bu _) ?_;refine aK.mk [.map (some jE)] ⟨rfl,_,_,_,.inr ⟨_,.head _,rfl,rfl⟩,rfl,rfl⟩ ?_;refine bs.lookup aU rfl (by simp) rfl rfl rfl rfl (λw=>Hg w) (l:=aZ) (g:=jE) rfl rfl (by simp) ?_;refine aJ.mk (λaf=>?_) (λaf=>?_);·refine cz.mk [⟨en,.cells #[.map (some jE)] 155 (0,0)⟩,⟨jE,jD aZ⟩] [] _ _ rfl rfl (b0 rfl) rfl ?_;refine aK.mk _ (Cj (b:=cb) (e:=6) (.tail _ (.tail _ (.head _)))) ?_;refine⟨_,_,.sub (fw _) .refl,?_,dd,rfl⟩;rw[p0,k8,qU,af];rfl
       ·have ap:eB g.ds[i].name aZ=none:=by simpa using af
        refine aK.mk [.map (some jE)] ⟨rfl,_,_,_,.inr ⟨_,.head _,rfl,rfl⟩,rfl,rfl⟩ ?_;refine bs.Ww aU rfl rfl rfl rfl rfl rfl rfl rfl rfl ap (Mr:=[⟨en,.cells #[.map (some jE)] 155 (0,0)⟩,vQ cb 0]) (List.Perm.swap _ _ _) ?_;refine bc.mk _ (cF (i:=i) (by omega)) ?_;refine⟨(i+1,aZ++[(g.ds[i].name,(i:Int))]),⟨⟨by simp only;omega,?_⟩,by simp only;omega⟩,.perm (List.Perm.swap _ _ _) .refl,km,.cons rfl .nil⟩;simp only;rw[p0,k8,qU,af];rfl
      ·have Wz:g.n<=i:=by simpa using h
       have fz:qU [] 0 g.ds=some aZ:=by rw[p0,jT (by omega),qU]
       rw[fz];refine a0.mk [] [⟨en,.cells #[.map (some jE)] 155 (0,0)⟩,⟨jE,jD aZ⟩,vQ cb 0] _ (.refl _) (agv g) ?_;rintro v fE ey -⟨c5,rfl,O9,iL,rfl⟩;have kP:=nQ.mono iL;have WA:∀ b o,I b=some o->fE b=some o:=λb o h=>iL _ _ (dd _ _ h);refine c4.range aU rfl rfl rfl .refl (agw kP O9) (λvs h=>?_) (λk I' M'=>(∀ b o,fE b=some o->I' b=some o)/\((vP 0 g.ds).take k).all (λp=>z9 aZ p.2)=true/\M'=[⟨en,.cells #[.map (some jE)] 155 (0,0)⟩,⟨jE,jD aZ⟩,vQ cb 0]) (λex I' M'=>ex=.ret/\(∀ b o,fE b=some o->I' b=some o)/\yN aZ g.ds=false/\M'=[⟨en,.cells #[.map (some jE)] 155 (0,0)⟩,⟨jE,jD aZ⟩,vQ cb 41]) ⟨λ_ _ h=>h,rfl,rfl⟩ ?_ ?_ ?_;·rw[Hf]at h;obtain⟨p,_,rfl⟩:=dC.1 h;rfl
       ·rintro k ae I' M' -⟨rW,bb,rfl⟩l B ao jX;have WB:k<(vP 0 g.ds).length:=by simpa[Hf]using ae
        generalize aD:(vP 0 g.ds)[k]=p;have ak:(uq 0 g.ds)[k]=[.int .i64 p.1,p.2.val]:=by simp only[Hf,lA,aD]
        rw[ak];have next:z9 aZ p.2=true->((vP 0 g.ds).take (k+1)).all (λp=>z9 aZ p.2)=true:=λh=>by rw[ho WB,GW,bb,aD];simp[h]
        refine aJ.mk (λaf=>?_) (λaf=>?_)
        ·refine⟨_,_,.refl,rW,next ?_,rfl⟩;have jq:decide (p.2.k=3)=false:=by simpa using af
         simp[z9,jq]
        ·have jq:decide (p.2.k=3)=true:=by simpa using af
         refine aK.mk [.map (some jE)] ⟨rfl,_,_,_,.inr ⟨_,.head _,rfl,rfl⟩,rfl,rfl⟩ ?_;refine bs.lookup aU rfl (by simp) rfl rfl rfl rfl (λw=>Hg w) (l:=aZ) (g:=jE) rfl rfl (by simp) ?_;refine aJ.mk (λaP=>?_) (λaP=>?_)
         ·refine cz.mk [⟨en,.cells #[.map (some jE)] 155 (0,0)⟩,⟨jE,jD aZ⟩] [] _ _ rfl rfl (b0 rfl) rfl ?_;refine⟨_,_,.refl,rfl,rW,?_,rfl⟩;unfold yN;rw[Ks];have Hi:(eB p.2.t aZ).isSome=false:=by simpa using aP
          exact⟨p,by rw[<-aD];exact cC WB,by simp[z9,jq,Hi]⟩
         ·have Hi:(eB p.2.t aZ).isSome=true:=by simpa using aP
          exact⟨_,_,.refl,rW,next (by simp[z9,Hi]),rfl⟩
       ·rintro I' M' -⟨rW,bb,rfl⟩;have O':yN aZ g.ds=true:=by unfold yN;rw[fq (by simp[Hf])]at bb;exact bb
        refine cz.mk [⟨en,.cells #[.map (some jE)] 155 (0,0)⟩,⟨jE,jD aZ⟩] [] _ _ rfl rfl (b0 rfl) rfl ?_;refine aK.mk _ (Cj (b:=cb) (e:=0) (.tail _ (.tail _ (.head _)))) ?_;refine⟨_,_,.sub (fw _) .refl,?_,λb o h=>rW _ _ (WA _ _ h),rfl⟩;simp only[O'];rfl
       ·rintro ex I' M' -⟨rfl,rW,O',rfl⟩;refine⟨by simp,?_⟩;refine aK.mk _ (Cj (b:=cb) (e:=41) (.tail _ (.tail _ (.head _)))) ?_;refine⟨_,_,.sub (fw _) .refl,?_,λb o h=>rW _ _ (WA _ _ h),rfl⟩;simp only[O'];rfl
structure z' where
 a:Option Addr
 n:Nat
 c:Nat
 l:List Int
def z'.val(r:z'):Value:=.slice r.a r.n r.c
structure z'.ok(I:aR)(r:z'):Prop where
 bg:dA I r.a r.n r.c 1 8 (r.l.map (.int .i64 ·))
def z'.ok.n{r:z'}(h:r.ok I):r.l.length=r.n:=by have:=h.bg.len;simpa using this
structure hX where
 rows:List z'
 a:Option Addr
 n:Nat
 c:Nat
def hX.val(x:hX):Value:=.slice x.a x.n x.c
structure hX.ok(I:aR)(x:hX):Prop where
 bg:dA I x.a x.n x.c 1 24 (x.rows.map z'.val)
 rows:∀ r∈x.rows,r.ok I
def hX.ok.n{x:hX}(h:x.ok I):x.rows.length=x.n:=by have:=h.bg.len;simpa using this
def a5.KT{xs:List Value}(h:os.ok size xs)(ah:os.n*b<=140737488355328)(bL:∀ g,os.a=some g->I g=none)(Mr:List aI) :
  ∃ I',jP [] I (os.aL e++Mr) I' Mr/\(∀ b o,I b=some o->I' b=some o)/\dA I' (os.a.map λg=>⟨g,0,none⟩) os.n os.c size b xs:=by
 obtain⟨a,n,c,aQ⟩:=os;cases a with
 |none=>obtain⟨U,aa⟩:=h.nil rfl;simp only at U aa;subst U;subst aa;exact⟨I,.refl,λ_ _ h=>h,h.len,⟨bY _,by simp⟩,.inl rfl⟩
 |some g=>obtain⟨U,aa,af,aP⟩:=h.cap g rfl;have aA:=bL g rfl;exact⟨ins I g (.cells aQ.toArray e (0,0)),.rA rfl (by simp) .refl,qP aA,h.len,⟨aa,ah⟩,.inr ⟨⟨g,0,none⟩,rfl,rfl,_,_,_,uj ..,by simpa using aP⟩⟩
def qV:a5:=⟨none,0,0,[]⟩
def ur(size:Nat):qV.ok size []:=⟨by simp[qV],λ_=>⟨rfl,rfl⟩,λg h=>by cases h⟩
def a5.ok.Hj{l:List Int}(h:os.ok 1 (l.map (Value.int .i64))):os.n=l.length:=by have:=h.len;simp at this;omega
structure Aa where
 a:Option Addr
 n:Nat
 c:Nat
 l:List Bool
def Aa.val(r:Aa):Value:=.slice r.a r.n r.c
structure Aa.ok(I:aR)(r:Aa):Prop where
 bg:dA I r.a r.n r.c 1 1 (r.l.map Value.bool)
def Aa.ok.n{r:Aa}(h:r.ok I):r.l.length=r.n:=by have:=h.bg.len;simpa using this
def valid(n:Nat)(l:List Int):Prop:=∀ k∈l,0<=k/\k<n
def KU{a8 post:List Value}{z:Value}(ae:k=a8.length):bK (a8++z::post) k [v]=a8++v::post:=by
 subst ae;unfold bK;have e:(a8++z::post).drop (a8.length+[v].length)=post:=by rw[show a8++z::post=(a8++[z])++post from by simp];exact GV (by simp)
 rw[e,rV rfl];simp
structure KV where
 rows:List Aa
 a:Option Addr
 n:Nat
 c:Nat
def KV.val(x:KV):Value:=.slice x.a x.n x.c
structure KV.ok(I:aR)(x:KV):Prop where
 bg:dA I x.a x.n x.c 1 24 (x.rows.map Aa.val)
 rows:∀ r∈x.rows,r.ok I
end Go.V
