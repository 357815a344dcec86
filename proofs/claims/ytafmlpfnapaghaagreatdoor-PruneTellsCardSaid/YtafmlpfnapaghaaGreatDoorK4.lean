/- Part 4 of what the proofs of this seat share: the executor, data in memory, walks.
-/
import Derived.Test.YtafmlpfnapaghaaGreatDoorK3
import Derived.WideKeyArgs
import Derived.Below
import Derived.JoinedOf
import Derived.Test.YtafmlpfnapaghaaGreatDoorK2
set_option linter.all false
set_option maxHeartbeats 40000000
namespace Go.V
open Go Go.Proofs
def cR:=@of_decide_eq_false
def rY:=@List.getElem_of_mem
def o3:=@List.perm_middle
def A4:=@List.perm_append_comm_assoc
def ud:=@List.mem_flatMap
def pZ:=@Nat.sub_self
def vK:=@decide_eq_decide
def C9:=@List.getElem_append_left
def xD:=@Nat.le_of_succ_le
def FT:=@List.mem_or_eq_of_mem_set
def Da:=@List.set_append_right
def Db:=@List.singleton_append
def Dc:=@List.Sublist.append
def Jt:=@List.idxOf_lt_length_of_mem
def Dd:=@List.set_cons_zero
def Ju:=@List.eq_of_mem_replicate
def FU:=@List.length_reverse
def Jv:=@List.pairwise_flatMap
def NB:=@List.getElem_concat_length
def Jw:=@List.pairwise_append
def FV:=@List.take_append
def A5:=@Nat.sub_zero
def NC:=@List.getElem?_replicate
def Jx:=@List.getElem_idxOf
def ND:=@BitVec.eq_of_getLsbD_eq
def A6:=@decide_true
def NE:=@List.reverse_append
def NF:=@List.getElem_range
def NG:=@BitVec.getLsbD_and
def Jy:=@List.foldl_nil
def Vb:=@List.pairwise_iff_getElem
def Vc:=@List.getElem_append_right
def Vd:=@List.getLast?_eq_getElem?
def NH:=@List.getElem_take
def FW:=@Nat.ble_eq
variable{α:Type}{size e eH base hH ln lc:Nat}{t:bx}{cs xs vL cur vs:List Value}{n dE ca dC dz dO b1 cc gR:Int}{P deb:List Int}{cC:Array Field}{v:Value}{W:World}{p:List MemPlace}{I I':aT}{x y:Operand}{d:aH}{E:Env}{dr aO sT:dW}{other:Prop}{M M0:List aD}{os:aY}{g:bP}{z f:Bool}{pl:List (ByteArray×Int)}{p0:Option Addr}{aa:List aH}
section
variable{H:Type}{enc:TypeId×Value->H}{P:Program}{W:World}{base:Nat}{ek:Nat->Bool}{held:Bool}
def Ve{α:Type}{p:Nat->α->Prop}:∀ (n:Nat),(∀ i,i<n->∃ d,p i d)->∃ l:List α,l.length=n/\∀ i (h:i<l.length),p i l[i]
 |0,_=>⟨[],rfl,λi h=>by simp at h⟩
 |n+1,h=>by
  obtain⟨l,U,ab⟩:=Ve n λi hi=>h i (by omega);obtain⟨d,al⟩:=h n (by omega);refine⟨l++[d],by simp[U],λi hi=>?_⟩;by_cases ax:i<l.length;·rw[C9 ax];exact ab i ax
  ·have e:i=l.length:=by simp at hi;omega
   subst e;simpa[U]using al
def NI{f:α->List Value}(ar:0<size)(au:∀ x,(f x).length=size)(ok:α->Prop){t e:TypeId}(aq:P.underlying t=some (.slice e))(aC:P.cellsOf e=size)(c1:∀ eH cs x,DataW.trod enc P W base ek held eH e cs=some x->∃ d,cs=f d/\ok d){x:DataW H×List MemPlace}(h:DataW.trod enc P W base ek held eH t cs=some x) :
  ∃ (a:Option Addr) (n c:Nat) (l:List α),cs=[.slice a n c]/\gb (pY W) a n c size 0 (l.flatMap f)/\l.length=n/\(∀ d∈l,ok d)/\(a=none->c=0)/\c<=maxLen:=by
 rcases DataW.trod_slice aq h with⟨rfl,_⟩ | ⟨a,len,cap,aqJ,rest,m,_,rfl,_,ah,ay,hm,hlen,FX,_,_⟩
 ·exact⟨none,0,0,[],rfl,⟨by simp,⟨b2 _,by omega⟩,.inl rfl⟩,rfl,λd al=>by simp at al,λ_=>rfl,by unfold maxLen;omega⟩
 have each:∀ i,i<len->∃ d,ok d/\W.cells? base (a.add (i*size)) size=some (f d):=λi hi=>by have U:=FX i hi;rw[aC,ev (by omega)]at U;obtain⟨cs',ab,ak⟩:=LR.1 U;obtain⟨d,rfl,al⟩:=c1 _ _ _ ak;exact⟨d,al,ab⟩
 obtain⟨l,iT,NJ⟩:=Ve len each;refine⟨some a,len,cap,l,rfl,⟨by rw[gd f size au,iT],⟨ay,by omega⟩,?_⟩,iT,λd al=>?_,λh=>by simp at h,hm⟩
 ·by_cases av:len=0
  ·exact .inl av
  right
  have iH:=(NJ 0 (by omega)).2;obtain⟨-,-,A7⟩:=World.cells?_some iH;have Vf:=A7 0 ar;rw[ev (by rw[au];exact ar)]at Vf;have Vg:a.spot=none:=by
   have:=World.cell?_spot Vf;cases c4:a.spot with
   |none=>rfl| some s=>simp[Addr.add,c4]at this
  refine⟨a,rfl,Vg,?_⟩;have Vh:∀ i (hi:i<l.length),∀ k,k<size->W.cell? ⟨a.block,a.off+(i*size+k),none⟩=(f l[i])[k]?:=λi hi k af=>by obtain⟨-,-,cj⟩:=World.cells?_some (NJ i hi).2;have:=cj k af;rw[dF _ Vg,dF _ rfl]at this;rw[<-this];congr 2;simp only[];omega
  have afL:∃ cs T an,W.heap[a.block]?=some (.cells cs T an):=by
   have U:=Vh 0 (by omega) 0 ar;rw[ev (by rw[au];exact ar)]at U;unfold World.cell? at U;cases cj:W.heap[a.block]? with
   |none=>simp[cj]at U
   |some o=>
    cases o with
    |cells cs T an=>exact⟨cs,T,an,rfl⟩| _=>simp[cj]at U
  obtain⟨cs,T,an,cj⟩:=afL;refine⟨cs,T,an,cj,?_⟩;have im:=gd f size au l;apply yC;intro j;by_cases aj:j<len*size
  ·have hdiv:j/size<l.length:=by rw[iT];exact Nat.div_lt_of_lt_mul (by rw[Nat.mul_comm];exact aj)
   have Jz:=Nat.mod_lt j ar;have e:=Nat.div_add_mod j size;rw[Nat.mul_comm]at e;have U:=Vh (j/size) hdiv (j%size) Jz;rw[e]at U;have ab:=xi f size au l (j/size) hdiv;have ak:(l.flatMap f)[j]?=(f l[j/size])[j%size]?:=by rw[<-ab,kA,cw Jz,oG,e]
   rw[ak,<-U,kA,cw aj,oG];simp[World.cell?,cj]
  ·rw[ql (by rw[fH];omega),ql (by rw[im,iT];omega)]
 ·obtain⟨i,hi,rfl⟩:=rY al;exact(NJ i hi).1
def vM{k:IntKind}{t:TypeId}{x:DataW H×List MemPlace}(aq:P.underlying t=some (.int k))(h:DataW.trod enc P W base ek held eH t cs=some x):∃ n,cs=[.int k n]/\(Lit.int k n).wf=true:=by obtain⟨n,U,_,ab⟩:=DataW.trod_int aq h;exact⟨n,U,ab⟩
def wf_i64(h:(Lit.int .i64 n).wf=true):iY n:=by simp[Lit.wf,IntKind.min,IntKind.max,IntKind.signed,IntKind.bits]at h;exact h
def wf_u64(h:(Lit.int .u64 n).wf=true):e5 n:=by simp[Lit.wf,IntKind.min,IntKind.max,IntKind.signed,IntKind.bits]at h;unfold e5;omega
def wf_u8(h:(Lit.int .u8 n).wf=true):0<=n/\n<256:=by simp[Lit.wf,IntKind.min,IntKind.max,IntKind.signed,IntKind.bits]at h;omega
end
section
variable{H:Type}{enc:TypeId×Value->H}{W:World}{base:Nat}{ek:Nat->Bool}{held:Bool}
def Vi{x:DataW H×List MemPlace}(h:DataW.trod enc Tryz.prog W base ek held eH 25 cs=some x) :
  ∃ (a:Option Addr) (n c:Nat) (l:List Int),cs=[.slice a n c]/\gb (pY W) a n c 1 0 (l.map (.int .i64 ·))/\l.length=n/\∀ k∈l,iY k:=by
 obtain⟨a,n,c,l,U,ab,ak,aL,-,-⟩:=NI (f:=λk=>[Value.int .i64 k]) (size:=1) (by decide) (λ_=>rfl) iY (show Tryz.prog.underlying 25=some (.slice 3) by kernel_rfl) (by kernel_rfl)
  (λeH cs x h=>by
   obtain⟨n,U,ab⟩:=vM (show Tryz.prog.underlying 3=some (.int .i64) by kernel_rfl) h;exact⟨n,U,wf_i64 ab⟩) h
 refine⟨a,n,c,l,U,?_,ak,aL⟩;rwa [<-List.map_eq_flatMap]at ab
def afM{l:List α}(h:l.length=4):∃ a b c d,l=[a,b,c,d]:=by
 match l,h with
 |[a,b,c,d],_=>exact⟨a,b,c,d,rfl⟩
def afN{l:List α}(h:l.length=9):∃ a b c d e f g i j,l=[a,b,c,d,e,f,g,i,j]:=by
 match l,h with
 |[a,b,c,d,e,f,g,i,j],_=>exact⟨a,b,c,d,e,f,g,i,j,rfl⟩
def afO{l:List α}(h:l.length=3):∃ a b c,l=[a,b,c]:=by
 match l,h with
 |[a,b,c],_=>exact⟨a,b,c,rfl⟩
def afP{l:List α}(h:l.length=2):∃ a b,l=[a,b]:=by
 match l,h with
 |[a,b],_=>exact⟨a,b,rfl⟩
def afQ{l:List α}(h:l.length=1):∃ a,l=[a]:=by
 match l,h with
 |[a],_=>exact⟨a,rfl⟩
def afR{x:DataW H×List MemPlace}(h:DataW.trod enc Tryz.prog W base ek held eH 59 cs=some x) :
  ∃ a b c d:Int,cs=[.int .u64 a,.int .u64 b,.int .u64 c,.int .u64 d]/\e5 a/\e5 b/\e5 c/\e5 d:=by
 obtain⟨xs,m,_,_,ay,e8,hi⟩:=M4 (show Tryz.prog.underlying 59=some (.array 4 57) by kernel_rfl) h;rw[show Tryz.prog.cellsOf 59=4 by kernel_rfl]at ay;rw[show Tryz.prog.cellsOf 57=1 by kernel_rfl]at hi;have hu:Tryz.prog.underlying 57=some (.int .u64):=by kernel_rfl
 obtain⟨a,b,c,d,rfl⟩:=afM ay;have get:∀ i,(kg:i<4)->∃ n,(([a,b,c,d]:List Value).drop (i*1)).take 1=[.int .u64 n]/\e5 n:=λi kg=>by have U:=hi i kg;rw[ev (by omega)]at U;obtain⟨n,ab,ak⟩:=vM hu U;exact⟨n,ab,wf_u64 ak⟩
 obtain⟨n0,c9,y2⟩:=get 0 (by decide);obtain⟨Fs,aF,da⟩:=get 1 (by decide);obtain⟨IX,a7,bZ⟩:=get 2 (by decide);obtain⟨Vj,bC,fG⟩:=get 3 (by decide);simp at c9 aF a7 bC;subst c9 aF a7 bC;exact⟨_,_,_,_,rfl,y2,da,bZ,fG⟩
def De{P:Program}{t:Nat}{l:List (Nat×Nat)}(h:(match P.underlying t with
  |some (.struct cC)=>decide (cC.toList.map (λf=>(f.type,f.offset))=l)| _=>false)=true):∃ cC,P.underlying t=some (.struct cC)/\cC.toList.map (λf=>(f.type,f.offset))=l:=by
 split at h
 ·rename_i cC hu;exact⟨cC,hu,cq h⟩
 ·cases h
def FY{P:Program}{l:List (Nat×Nat)}{q:Nat->Nat->Prop}(au:cC.toList.map (λf=>(f.type,f.offset))=l)(h:∀ (i:Nat) (f:Field),cC[i]?=some f->q f.type f.offset):∀ (i t o:Nat),l[i]?=some (t,o)->q t o:=by subst au;intro i t o hi;simp only[sr,u5,Prod.mk.injEq]at hi;obtain⟨f,U,rfl,rfl⟩:=hi;exact h i f (by simpa using U)
def FZ{P:Program}{t:TypeId}{x:DataW H×List MemPlace}(aq:P.underlying t=some (.struct cC))(h:DataW.trod enc P W base ek held eH t cs=some x) :
  cs.length=P.cellsOf t/\∀ (i:Nat) (f:Field),cC[i]?=some f->∃ eH y,DataW.trod enc P W base ek held eH f.type ((cs.drop f.offset).take (P.cellsOf f.type))=some y:=by
 obtain⟨xs,m,_,_,ay,e8,hi⟩:=DataW.trod_struct aq h;refine⟨ay,λi f au=>?_⟩;have ax:=(l6.1 au).1;have U:=hi i f au;rw[ev (by omega)]at U;exact⟨_,_,U⟩
def afS{x:DataW H×List MemPlace}(h:DataW.trod enc Tryz.prog W base ek held eH 61 cs=some x):∃ d:aH,cs=d.cells/\A2 (pY W) d:=by obtain⟨cC,aq,au⟩:∃ cC,Tryz.prog.underlying 61=some (.struct cC)/\cC.toList.map (λf=>(f.type,f.offset))=[(5,0),(59,1),(9,5),(3,6),(3,7),(25,8)]:=De (by kernel_rfl);obtain⟨ay,hi⟩:=FZ aq h;have hi:∀ (i t o:Nat),[(5,0),(59,1),(9,5),(3,6),(3,7),(25,8)][i]?=some (t,o)->∃ eH y,DataW.trod enc Tryz.prog W base ek held eH t ((cs.drop o).take (Tryz.prog.cellsOf t))=some y:=FY (P:=Tryz.prog) au hi;rw[show Tryz.prog.cellsOf 61=9 by kernel_rfl]at ay;obtain⟨iH,c6,dg,gB,my,oi,sW,sX,ue,rfl⟩:=afN ay;obtain⟨_,_,av⟩:=hi 0 _ _ rfl;obtain⟨_,_,U⟩:=hi 1 _ _ rfl;obtain⟨_,_,ab⟩:=hi 2 _ _ rfl;obtain⟨_,_,ak⟩:=hi 3 _ _ rfl;obtain⟨_,_,aL⟩:=hi 4 _ _ rfl;obtain⟨_,_,bm⟩:=hi 5 _ _ rfl;rw[show Tryz.prog.cellsOf 5=1 by kernel_rfl]at av;rw[show Tryz.prog.cellsOf 59=4 by kernel_rfl]at U;rw[show Tryz.prog.cellsOf 9=1 by kernel_rfl]at ab;rw[show Tryz.prog.cellsOf 3=1 by kernel_rfl]at ak aL;rw[show Tryz.prog.cellsOf 25=1 by kernel_rfl]at bm;obtain⟨k,c9,Vk⟩:=vM (show Tryz.prog.underlying 5=some (.int .u8) by kernel_rfl) av;obtain⟨a,b,c,d,aF,f',hC,iX,hf⟩:=afR U;obtain⟨s,a7,-,ws⟩:=MZ (show Tryz.prog.underlying 9=some .string by kernel_rfl) ab;obtain⟨lo,bC,wl⟩:=vM (show Tryz.prog.underlying 3=some (.int .i64) by kernel_rfl) ak;obtain⟨ck,di,wh⟩:=vM (show Tryz.prog.underlying 3=some (.int .i64) by kernel_rfl) aL;obtain⟨eA,aZ,ej,kids,hE,ig,eR,lL⟩:=Vi bm;simp at c9 aF a7 bC di hE;obtain⟨NK,NL,afT,afU⟩:=aF;subst c9 NK NL afT afU a7 bC di hE;exact⟨⟨k,a,b,c,d,s,lo,ck,eA,aZ,ej,kids⟩,rfl,wf_u8 Vk,f',hC,iX,hf,wf_i64 wl,wf_i64 wh,ig,lL,by unfold maxLen at ws;omega⟩
def afV{x:DataW H×List MemPlace}(h:DataW.trod enc Tryz.prog W base ek held eH 46 cs=some x):∃ t:bx,cs=t.cells/\xC (pY W) t:=by obtain⟨cC,aq,au⟩:∃ cC,Tryz.prog.underlying 46=some (.struct cC)/\cC.toList.map (λf=>(f.type,f.offset))=[(44,0),(3,1)]:=De (by kernel_rfl);obtain⟨ay,hi⟩:=FZ aq h;have hi:∀ (i t o:Nat),[(44,0),(3,1)][i]?=some (t,o)->∃ eH y,DataW.trod enc Tryz.prog W base ek held eH t ((cs.drop o).take (Tryz.prog.cellsOf t))=some y:=FY (P:=Tryz.prog) au hi;rw[show Tryz.prog.cellsOf 46=2 by kernel_rfl]at ay;obtain⟨iH,c6,rfl⟩:=afP ay;obtain⟨_,_,av⟩:=hi 0 _ _ rfl;obtain⟨_,_,U⟩:=hi 1 _ _ rfl;rw[show Tryz.prog.cellsOf 44=1 by kernel_rfl]at av;rw[show Tryz.prog.cellsOf 3=1 by kernel_rfl]at U;obtain⟨a,n,c,l,c9,ig,az,bM,-,-⟩:=NI (f:=aH.cells) (size:=9) (by decide) aH.bI (A2 (pY W)) (show Tryz.prog.underlying 44=some (.slice 61) by kernel_rfl) (by kernel_rfl) (λeH cs x h=>afS h) av;obtain⟨r,aF,wr⟩:=vM (show Tryz.prog.underlying 3=some (.int .i64) by kernel_rfl) U;simp at c9 aF;subst c9 aF;exact⟨⟨l,a,n,c,r⟩,rfl,ig,bM,wf_i64 wr⟩
def afW{x:DataW H×List MemPlace}(h:DataW.trod enc Tryz.prog W base ek held eH 48 cs=some x):∃ d:aK,cs=d.cells/\FQ (pY W) d:=by obtain⟨cC,aq,au⟩:∃ cC,Tryz.prog.underlying 48=some (.struct cC)/\cC.toList.map (λf=>(f.type,f.offset))=[(9,0),(46,1)]:=De (by kernel_rfl);obtain⟨ay,hi⟩:=FZ aq h;have hi:∀ (i t o:Nat),[(9,0),(46,1)][i]?=some (t,o)->∃ eH y,DataW.trod enc Tryz.prog W base ek held eH t ((cs.drop o).take (Tryz.prog.cellsOf t))=some y:=FY (P:=Tryz.prog) au hi;rw[show Tryz.prog.cellsOf 48=3 by kernel_rfl]at ay;obtain⟨iH,c6,dg,rfl⟩:=afO ay;obtain⟨_,_,av⟩:=hi 0 _ _ rfl;obtain⟨_,_,U⟩:=hi 1 _ _ rfl;rw[show Tryz.prog.cellsOf 9=1 by kernel_rfl]at av;rw[show Tryz.prog.cellsOf 46=2 by kernel_rfl]at U;obtain⟨s,c9,-,ws⟩:=MZ (show Tryz.prog.underlying 9=some .string by kernel_rfl) av;obtain⟨t,aF,aq⟩:=afV U;simp[bx.cells]at c9 aF;obtain⟨NK,NL⟩:=aF;subst c9 NK NL;exact⟨⟨s,t⟩,rfl,by unfold maxLen at ws;exact ws,aq⟩
def afX{x:DataW H×List MemPlace}(h:DataW.trod enc Tryz.prog W base ek held eH 24 cs=some x):∃ g:bP,cs=[.slice g.a g.n g.c]/\vJ (pY W) g:=by obtain⟨cC,aq,au⟩:∃ cC,Tryz.prog.underlying 24=some (.struct cC)/\cC.toList.map (λf=>(f.type,f.offset))=[(22,0)]:=De (by kernel_rfl);obtain⟨ay,hi⟩:=FZ aq h;have hi:∀ (i t o:Nat),[(22,0)][i]?=some (t,o)->∃ eH y,DataW.trod enc Tryz.prog W base ek held eH t ((cs.drop o).take (Tryz.prog.cellsOf t))=some y:=FY (P:=Tryz.prog) au hi;rw[show Tryz.prog.cellsOf 24=1 by kernel_rfl]at ay;obtain⟨iH,rfl⟩:=afQ ay;obtain⟨_,_,av⟩:=hi 0 _ _ rfl;rw[show Tryz.prog.cellsOf 22=1 by kernel_rfl]at av;obtain⟨a,n,c,l,c9,ig,az,bM,-,-⟩:=NI (f:=aK.cells) (size:=3) (by decide) aK.bI (FQ (pY W)) (show Tryz.prog.underlying 22=some (.slice 48) by kernel_rfl) (by kernel_rfl) (λeH cs x h=>afW h) av;exact⟨⟨l,a,n,c⟩,c9,ig,bM⟩
def Vl{P:Program}{w:World}{r:Reach}{t:Nat}(aq:P.underlying t=some (.struct cC))(h:Value.okWide P w r base t v):∃ cs,v=.agg cs:=by obtain⟨cs,U,-⟩:=Go.WideShapes.okWide_struct aq h;exact⟨cs,U⟩
set_option maxRecDepth 100000 in
def afY{d:DataW H}(h:DataW.Trod enc Tryz.prog W 0 (λ_=>true) true 24 v d p)(ai:Value.okWide Tryz.prog W .any base 24 v):∃ g:bP,v=g.val/\vJ (pY W) g:=by obtain⟨cC,aq,-⟩:=De (P:=Tryz.prog) (t:=24) (l:=[(22,0)]) (by kernel_rfl);obtain⟨cs,rfl⟩:=Vl aq ai;obtain⟨eH,au⟩:=h;obtain⟨g,e,ao⟩:=afX au;refine⟨g,?_,ao⟩;have c0:cs.toList=[.slice g.a g.n g.c]:=e;cases cs;simp only at c0;subst c0;rfl
end
def Vm{H:Type}{enc:TypeId×Value->H}{P:Program}(ay:laidOutB P=true){W ko:World}(af:A1 W ko):∀ {eJ:List TypeId} {vs:List Value} {ds:List (DataW H)} {ps:List MemPlace},(∀ t∈eJ,P.readableRec t=true/\t<P.types.size) -> DataW.TrodAll enc P W 0 (λ_=>true) true eJ vs ds ps->(∀ p∈ps,p.block<W.heap.size)->∀ ek:Nat->Bool,(∀ p∈ps,ek p.block=true)->DataW.TrodAll enc P ko 0 ek true eJ vs ds ps
 |[],[],[],_,_,h,_,_,_=>h
 |t::eJ,v::vs,d::ds,_,aq,⟨p,q,U,ab,e⟩,ax,ek,ar=>by
  subst e;refine⟨p,q,?_,?_,rfl⟩
  ·refine Go.WideElems.Trod_stays ay (aq t (.head _)).1 (aq t (.head _)).2 U (λx ae=>?_) (λx ae=>ar x (dm.2 (.inl ae)));have bo:=ax x (dm.2 (.inl ae));cases x with
   |cell b o=>exact World.cell?_of_block (w:=W) (af.dL b bo)| map b=>exact af.dL b bo
  ·exact Vm ay af (λt h=>aq t (.tail _ h)) ab (λx ae=>ax x (dm.2 (.inr ae))) ek (λx ae=>ar x (dm.2 (.inr ae)))
def afZ:mapsRowed Tryz.prog=true:=by kernel_rfl
def af0:Tryz.prog.stopsHeard=true:=by kernel_rfl
def af1:Tryz.prog.mayEnter=true:=by kernel_rfl
section
variable{H:Type}{enc:TypeId×Value->H}
end
structure e1 where
 p:Int
 w:Int
 r:Int
 pa:Option Addr
 pn:Nat
 pc:Nat
 pl:List Int
 at_:Int
def e1.cells(s:e1):List Value:=[.int .u8 s.p,.int .u8 s.w,.int .i64 s.r,.slice s.pa s.pn s.pc,.int .i64 s.at_]
def e1.val(s:e1):Value:=.agg #[.int .u8 s.p,.int .u8 s.w,.int .i64 s.r,.slice s.pa s.pn s.pc,.int .i64 s.at_]
def e1.bI(s:e1):s.cells.length=5:=rfl
structure Vn(I:aT)(s:e1):Prop where
 aJ:gb I s.pa s.pn s.pc 1 0 (s.pl.map (.int .i64 ·))
 r:iY s.r
 at_:iY s.at_
structure qQ(I:aT)(x:il):Prop where
 aJ:gb I x.a x.n x.c 1 0 (x.l.map (.int .i64 ·))
 val:∀ k∈x.l,iY k
def qQ.mono{x:il}(h:qQ I x)(cg:∀ b o,I b=some o->I' b=some o):qQ I' x:=⟨h.aJ.mono cg,h.val⟩
section
variable{H:Type}{enc:TypeId×Value->H}
set_option maxRecDepth 100000 in
def af2{d:DataW H}(h:DataW.Trod enc Tryz.prog W 0 (λ_=>true) true 27 v d p)(ai:Value.okWide Tryz.prog W .any base 27 v):∃ s:e1,v=s.val/\Vn (pY W) s:=by
 obtain⟨cC,aq,im⟩:∃ cC,Tryz.prog.underlying 27=some (.struct cC)/\cC.toList.map (λf=>(f.type,f.offset))=[(5,0),(5,1),(3,2),(25,3),(3,4)]:=De (by kernel_rfl);obtain⟨cs,rfl⟩:=Vl aq ai;obtain⟨eH,au⟩:=h;have au:DataW.trod enc Tryz.prog W 0 (λ_=>true) true eH 27 cs.toList=some (d,p):=au;obtain⟨ay,hi⟩:=FZ aq au;have hi:∀ (i t o:Nat),[(5,0),(5,1),(3,2),(25,3),(3,4)][i]?=some (t,o)->∃ eH y,DataW.trod enc Tryz.prog W 0 (λ_=>true) true eH t ((cs.toList.drop o).take (Tryz.prog.cellsOf t))=some y:=FY (P:=Tryz.prog) im hi;rw[show Tryz.prog.cellsOf 27=5 by kernel_rfl]at ay;obtain⟨iH,c6,dg,gB,my,e⟩:∃ iH c6 dg gB my,cs.toList=[iH,c6,dg,gB,my]:=by
  match cs.toList,ay with
  |[iH,c6,dg,gB,my],_=>exact⟨iH,c6,dg,gB,my,rfl⟩
 rw[e]at hi;obtain⟨_,_,av⟩:=hi 0 _ _ rfl;obtain⟨_,_,U⟩:=hi 1 _ _ rfl;obtain⟨_,_,ab⟩:=hi 2 _ _ rfl;obtain⟨_,_,ak⟩:=hi 3 _ _ rfl;obtain⟨_,_,aL⟩:=hi 4 _ _ rfl;rw[show Tryz.prog.cellsOf 5=1 by kernel_rfl]at av U;rw[show Tryz.prog.cellsOf 3=1 by kernel_rfl]at ab aL;rw[show Tryz.prog.cellsOf 25=1 by kernel_rfl]at ak;obtain⟨y2,c9,Vk⟩:=vM (show Tryz.prog.underlying 5=some (.int .u8) by kernel_rfl) av;obtain⟨da,aF,f'⟩:=vM (show Tryz.prog.underlying 5=some (.int .u8) by kernel_rfl) U;obtain⟨bZ,a7,hC⟩:=vM (show Tryz.prog.underlying 3=some (.int .i64) by kernel_rfl) ab;obtain⟨eA,aZ,ej,kids,bC,ig,eR,lL⟩:=Vi ak;obtain⟨hF,di,hf⟩:=vM (show Tryz.prog.underlying 3=some (.int .i64) by kernel_rfl) aL;simp at c9 aF a7 bC di;subst c9 aF a7 bC di;refine⟨⟨y2,da,bZ,eA,aZ,ej,kids,hF⟩,?_,ig,wf_i64 hC,wf_i64 hf⟩;cases cs;simp only at e;subst e;rfl
end
def Vo(I:aT)(c:UInt8):Spec Tryz.prog 117 [.int .u8 c.toNat] I [] (λv I' M'=>v=.bool (letter c)/\I'=I/\M'=[]):=by
 refine bn [] aI Tryz.func117 rfl rfl rfl ?_;intro B av
 repeat' (refine a9.mk (λh=>?_) (λh=>?_))
 all_goals
  refine⟨_,_,.refl,?_⟩;refine⟨?_,rfl,rfl⟩;simp_all[letter]
  all_goals first
   |omega|(rw[l7];simp;omega)
def af3(I:aT)(c:UInt8):Spec Tryz.prog 118 [.int .u8 c.toNat] I [] (λv I' M'=>v=.bool (digit c)/\I'=I/\M'=[]):=by
 refine bn [] aI Tryz.func118 rfl rfl rfl ?_;intro B av
 repeat' (refine a9.mk (λh=>?_) (λh=>?_))
 all_goals
  refine⟨_,_,.refl,?_⟩;refine⟨?_,rfl,rfl⟩;simp_all[digit]
  all_goals first
   |omega|(rw[l7];simp;omega)
def af4(I:aT)(s:ByteArray)(ar:s.size<=140737488355328):Spec Tryz.prog 89 [.string s] I [] (λv I' M'=>v=.string (s.extract 0 (lJ s))/\I'=I/\M'=[]):=by
 refine bn [] aI Tryz.func89 rfl rfl rfl ?_;intro B av;have c9:∀ {s:ByteArray},lJ s=0->s.extract 0 (lJ s)=⟨#[]⟩:=λh=>by rw[h];apply qo;simp[Ci]
 refine a9.mk (λh=>?_) (λh=>?_)
 ·have U:s≠⟨#[]⟩:=by simpa using h
  have g2:0<s.size:=by refine Nat.pos_of_ne_zero λe=>U ?_;apply qo;exact Fa e
  refine sv.mk 0 rfl g2 ?_;refine aU.mk [] [] _ (.refl _) (Vo I s[0]) ?_;rintro v I' M' -⟨rfl,rfl,rfl⟩;refine aB.mk (λh=>?_) (λh=>?_)
  ·have ay:letter s[0]=false:=by simpa using h
   refine⟨_,_,.refl,?_,rfl,rfl⟩;rw[c9]
   ·unfold lJ;cases al:s.data.toList with
    |nil=>rfl
    |cons c r=>
     have:s[0]=c:=by show s.data.toList[0]=c;simp only[al];rfl
     rw[this]at ay;simp[ay]
  ·have ay:letter s[0]=true:=by simpa using h
   refine bu.inv (ι:=Nat) (λi=>{ a4:=[(0,.val (.string s)),(3,.val (.int .i64 i))],br:=I' }) (λi=>i<=s.size/\∀ j (h:j<s.size),1<=j->j<i->lI s[j]=true) (λi=>s.size-i) ?_ ?_;·exact⟨0,⟨by omega,λj _ U ab=>by omega⟩,.refl,ih,.nil⟩
   ·rintro i⟨hA,hB⟩;have Vp:lI s[0]=true:=by simp[lI,ay]
    have next:∀ (ax:i<s.size),lI s[i]=true->(i+1<=s.size/\∀ k (h:k<s.size),1<=k->k<i+1->lI s[k]=true)/\s.size-(i+1)<s.size-i:=λax aC=>
     ⟨⟨by omega,λj aj U ab=>by
      by_cases e:j=i;·subst e;exact aC
      ·exact hB j aj U (by omega)⟩,by omega⟩
    have out:(∀ (h:i<s.size),lI s[i]=false)->s.extract 0 i=s.extract 0 (lJ s):=λaz=>by
     have e3:1<=i:=by apply Nat.one_le_iff_ne_zero.2;intro e;subst e;rw[az g2]at Vp;cases Vp
     rw[TL g2 ay e3 hA hB az]
    have cQ:(s.extract 0 i).size<=140737488355328:=by rw[IE];omega
    have eT:IntKind.i64.wrap ((i:Int)+1)=((i+1:Nat):Int):=by rw[wrap_i64 ⟨by omega,by omega⟩];omega
    refine a9.mk (λh=>?_) (λh=>?_)
    ·have ax:i<s.size:=by simpa using h
     refine sv.mk i rfl ax ?_;refine aU.mk [] [] _ (.refl _) (Vo I' s[i]) ?_;rintro v I' M' -⟨rfl,rfl,rfl⟩;refine a9.mk (λh=>?_) (λh=>?_)
     ·refine sv.mk i rfl ax ?_;refine aU.mk [] [] _ (.refl _) (af3 _ s[i]) ?_;rintro v I' M' -⟨rfl,rfl,rfl⟩;refine aB.mk (λab=>?_) (λab=>?_)
      ·refine aQ.mk _ eT ?_;exact⟨i+1,next ax (by simp only[lI];rw[show digit s[i]=true from ab];simp),.refl,ih,.nil⟩
      ·refine jv.mk 0 i rfl rfl (by omega) (by omega) ?_;refine⟨_,_,.refl,?_,rfl,rfl⟩;rw[<-out λ_=>by simp only[lI];rw[show letter s[i]=false from h,show digit s[i]=false from ab];rfl]
     ·refine aQ.mk _ eT ?_;exact⟨i+1,next ax (by simp only[lI];rw[show letter s[i]=true from h];simp),.refl,ih,.nil⟩
    ·have bS:¬ i<s.size:=by simpa using h
     refine jv.mk 0 i rfl rfl (by omega) (by omega) ?_;refine⟨_,_,.refl,?_,rfl,rfl⟩;rw[<-out λh=>(bS h).elim]
 ·have U:s=⟨#[]⟩:=by simpa using h
  subst U;refine⟨_,_,.refl,?_,rfl,rfl⟩;rw[c9];rfl
def NM(I:aT)(s:ByteArray):Spec Tryz.prog 58 [.string s] I [] (λv I' M'=>v=.bool (h0 s)/\I'=I/\M'=[]):=by
 refine bn [] aI Tryz.func58 rfl rfl rfl ?_;intro B av;refine a9.mk (λU=>?_) (λU=>?_)
 ·refine a9.mk (λab=>?_) (λab=>?_)
  ·have gx:s.size<=32:=by simp at ab;omega
   refine aU.mk [] [] _ (.refl _) (af4 I s (by omega)) ?_;rintro v I' M' -⟨rfl,rfl,rfl⟩;refine⟨_,_,.refl,?_,rfl,rfl⟩;have hle:=TM s;have aF:(s.extract 0 (lJ s)).size=lJ s:=by rw[IE];omega
   have a7:decide (s.extract 0 (lJ s)=s)=decide (lJ s=s.size):=by
    rw[vK];constructor;·intro h;rw[<-aF,h]
    ·intro h;rw[h];apply qo;simp[Ci]
   have jL:decide (s≠⟨#[]⟩)=true:=by simpa using U
   simp only[h0,jL,kj,show decide (s.size<=32)=true from eD gx,<-a7]
  ·refine⟨_,_,.refl,?_,rfl,rfl⟩;have jL:decide (s≠⟨#[]⟩)=true:=by simpa using U
   have gx:decide (s.size<=32)=false:=by simp at ab;simp;omega
   simp only[h0,jL,gx,kj,nr]
 ·refine⟨_,_,.refl,?_,rfl,rfl⟩;have jL:decide (s≠⟨#[]⟩)=false:=by simpa using U
  simp only[h0,jL,nr]
def i0:iY 0:=⟨by decide,by decide⟩
def F0(k:Int)(s:ByteArray):aH:=⟨k,0,0,0,0,s,0,0,none,0,0,[]⟩
def uf(d:aH):Bool:=decide (d.t=⟨#[]⟩)&&(decide (d.lo=0)&&decide (d.hi=0))
def af5(d:aH)(n:Int):Bool:=
 bif decide (d.k=0)then uf d&&decide (n=0)else
 bif decide (d.k=1)then uf d&&decide (n=0)else
 bif decide (d.k=2)then decide (d.lo=0)&&(decide (d.hi=0)&&(decide (n=0)&&(decide ((1:Int)<=d.t.size)&&decide ((d.t.size:Int)<=255))))else
 bif decide (d.k=3)then decide (d.lo=0)&&(decide (d.hi=0)&&(decide (n=0)&&h0 d.t))else
 bif decide (d.k=4)||decide (d.k=5)then uf d&&decide (2<=n)else
 bif decide (d.k=6)then decide (d.t=⟨#[]⟩)&&(decide (n=1)&&(decide (0<=d.lo)&&(decide (d.lo<=99)&&(decide (d.hi=-1)||(decide (d.lo<=d.hi)&&decide (d.hi<=99))))))else
 bif decide (d.k=7)||decide (d.k=8)then uf d&&decide (n=1)else
 bif decide (d.k=9)then decide (d.lo=0)&&(decide (d.hi=0)&&(decide (n=1)&&h0 d.t))else false
def F1(z:Bool)(d:aH)(n:Int):Bool:=
 bif decide (d.k=0)then z&&(uf d&&decide (n=0))else
 bif decide (d.k=1)then uf d&&decide (n=0)else
 bif decide (d.k=2)then z&&(decide (d.lo=0)&&(decide (d.hi=0)&&(decide (n=0)&&(decide ((1:Int)<=d.t.size)&&decide ((d.t.size:Int)<=255)))))else
 bif decide (d.k=3)then z&&(decide (d.lo=0)&&(decide (d.hi=0)&&(decide (n=0)&&h0 d.t)))else
 bif decide (d.k=4)||decide (d.k=5)then z&&(uf d&&decide (2<=n))else
 bif decide (d.k=6)then z&&(decide (d.t=⟨#[]⟩)&&(decide (n=1)&&(decide (0<=d.lo)&&(decide (d.lo<=99)&&(decide (d.hi=-1)||(decide (d.lo<=d.hi)&&decide (d.hi<=99)))))))else
 bif decide (d.k=7)||decide (d.k=8)then z&&(uf d&&decide (n=1))else
 bif decide (d.k=9)then z&&(decide (d.lo=0)&&(decide (d.hi=0)&&(decide (n=1)&&h0 d.t)))else false
def af6(s:ByteArray):decide (s=⟨#[]⟩)=decide (s.size=0):=by
 rw[l7];simp only[fk];constructor
 ·rintro rfl;rfl
 ·intro h;cases s with
  |mk d=>have:d.size=0:=h;simp[Fa this]
def af7(af:0<=d.k/\d.k<256)(n:Int):F1 d.oS d n=fits d n:=by
 by_cases rH:10<=d.k
 ·have e:fits d n=false:=by simp[fits,rH]
  rw[e];unfold F1;have h:∀ j:Int,j<10->decide (d.k=j)=false:=λj aj=>by simp;omega
  rw[h 0,h 1,h 2,h 3,h 4,h 5,h 6,h 7,h 8,h 9]<;>first | rfl | omega
 have Df:d.k=0\/d.k=1\/d.k=2\/d.k=3\/d.k=4\/d.k=5\/d.k=6\/d.k=7\/d.k=8\/d.k=9:=by omega
 generalize a2:d.oS=z;have cQ:=af6 d.t;have af8:(d.t=ByteArray.empty) ↔ d.t.size=0:=by rw[<-vK];exact cQ
 rcases Df with h | h | h | h | h | h | h | h | h | h<;>rw[l7]<;>simp[F1,fits,h,a2,uf,xj,tI,mo,af8]<;>cases z<;>first | (simp;done) | grind
def cx.Vq{P:Program}(aR:cX P E){t:Nat}(aq:E t=some dr)(eo:dr.bH=.array 4 e)(he:E e=some aO){k:IntKind}(jI:aO.bH=.int k)(ao:P.eqGuardType P.depth t=false){V:Value->Prop}(z:Bool)(a2:(dE == dO&&(ca == b1&&(dC == cc&&dz == gR)))=z)(h:V (.bool z)):cx P .eql t x y (.val (.agg #[.int k dE,.int k ca,.int k dC,.int k dz])) (.val (.agg #[.int k dO,.int k b1,.int k cc,.int k gR])) V other:=
 .IM aR aq eo he jI ao (by rw[a2];exact h)
set_option maxRecDepth 20000 in
def af9(af:0<=d.k/\d.k<256)(n:Int):Spec Tryz.prog 119 [d.val,.int .i64 n] I []
  (λv I' M'=>v=.bool (fits d n)/\I'=I/\M'=[]):=by
 rw[<-af7 af];obtain⟨k,cF,s1,s2,dt,s,lo,hi,eA,aZ,ej,kids⟩:=d;clear af;refine bn [] aI Tryz.func119 rfl rfl rfl ?_;intro B av;obtain⟨z,a2⟩:∃ z,aH.oS ⟨k,cF,s1,s2,dt,s,lo,hi,eA,aZ,ej,kids⟩=z:=⟨_,rfl⟩;rw[a2];refine cx.Vq aI (e:=57) rfl rfl rfl rfl (by kernel_rfl) z a2 ?_
 repeat' (first
  |refine a9.mk (λh=>?_) (λh=>?_)| refine aB.mk (λh=>?_) (λh=>?_)| refine cx.Vq aI (e:=57) rfl rfl rfl rfl (by kernel_rfl) z a2 ?_|(refine aU.mk [] [] _ (.refl _) (NM _ s) ?_;rintro v I' M' -⟨rfl,rfl,rfl⟩))
 all_goals clear a2
 all_goals first
  |(refine⟨_,_,.refl,?_,rfl,rfl⟩;simp_all[F1,uf];done)|(refine⟨_,_,.refl,?_,rfl,rfl⟩;simp_all[F1,uf];omega)|(exfalso;simp_all;done)|(exfalso;simp_all;omega)| skip
def y3(b:Bool):Int:=bif b then 1 else 0
def Vr{i:Nat}:∀ {ks:List Int} {s:List Bool} {k:Int},k∈ks->(k<0\/(i:Int)<=k)->iA i ks s=none
 |a::ks,s,k,af,h=>by
  unfold iA;cases ah:decide (a<0)||(decide ((i:Int)<=a)||s.getD a.toNat false)with
  |true=>rfl
  |false=>
   simp only[bz];simp only[qB,rA]at ah;rcases ea.1 af with rfl | af
   ·rcases h with h | h
    ·exact(ah.1 h).elim
    ·exact(ah.2.1 h).elim
   ·exact Vr af h
def JA{root:Int}:∀ {s:List Bool} {i j:Nat},j<s.length->(s.getD j false == decide (((i+j:Nat):Int)=root))=true->oT root i s=false
 |b::s,i,0,_,h=>by unfold oT;rw[show(b == decide ((i:Int)=root))=true by simpa using h];rfl
 |b::s,i,j+1,aj,h=>by
  unfold oT;cases b == decide ((i:Int)=root)with
  |true=>rfl| false=>simp only[bz];refine JA (j:=j) (by simpa using aj) ?_;rw[show i+1+j=i+(j+1) by omega];simpa using h
def NN{root:Int}:∀ {s:List Bool} {i:Nat},(∀ j,j<s.length->(s.getD j false == decide (((i+j:Nat):Int)=root))=false)->oT root i s=true
 |[],i,h=>rfl| b::s,i,h=>by unfold oT;have av:=h 0 (by simp);rw[show(b == decide ((i:Int)=root))=false by simpa using av];simp only[bz];refine NN λj aj=>?_;have:=h (j+1) (by simpa using aj);rw[show i+1+j=i+(j+1) by omega];simpa using this
structure F2(t:bx)(P:List Int)(W:Int):Prop where
 len:P.length=t.aa.length
 hU:∀ c∈P,0<=c/\c<=W
def kS(t:bx)(P:List Int)(rest:List Bool->Option (List Bool)):Prop:=
 (∃ s:List Bool,s.length=t.aa.length/\P=s.map y3/\gS 0 t.aa (List.replicate t.aa.length false)=rest s) \/
 (gS 0 t.aa (List.replicate t.aa.length false)=none/\∃ k,k<t.aa.length/\2<=P.getD k 0)
def sY(t:bx)(i:Nat)(s:List Bool):Option (List Bool):=gS i (t.aa.drop i) s
def vN(t:bx)(i:Nat)(d:aH)(k:Nat)(s:List Bool):Option (List Bool):=match iA i (d.kids.drop k) s with
 |some b3=>gS (i+1) (t.aa.drop (i+1)) b3| none=>none
def NO(h:gS 0 t.aa (List.replicate t.aa.length false)=none):right t=false:=by simp[right,h]
def kS.start(t:bx):kS t (List.replicate t.aa.length 0) (sY t 0):=
 .inl ⟨List.replicate t.aa.length false,by simp,by simp[y3],rfl⟩
def kS.enter{i:Nat}(h:kS t P (sY t i))(hi:i<t.aa.length)(au:fits t.aa[i] t.aa[i].kids.length=true):kS t P (vN t i t.aa[i] 0):=by
 rcases h with⟨s,U,ab,ak⟩ | h
 ·refine .inl ⟨s,U,ab,?_⟩;rw[ak,sY,dv hi,gS,au];rfl
 ·exact .inr h
def kS.aga{i:Nat}(h:kS t P (sY t i))(hi:i<t.aa.length)(au:fits t.aa[i] t.aa[i].kids.length=false):right t=false:=by
 refine NO ?_;rcases h with⟨s,U,ab,ak⟩ | h
 ·rw[ak,sY,dv hi,gS,au];rfl
 ·exact h.1
def kS.out{i k:Nat}(h:kS t P (vN t i d k))(af:k<d.kids.length)(au:d.kids[k]<0\/(i:Int)<=d.kids[k]):right t=false:=by
 refine NO ?_;rcases h with⟨s,U,ab,ak⟩ | h
 ·rw[ak,vN,Vr (k:=d.kids[k]) (by rw[dv af];exact .head _) au]
 ·exact h.1
def kS.sN{i k:Nat}(ay:P.length=t.aa.length)(hi:i<=t.aa.length)(h:kS t P (vN t i d k))(af:k<d.kids.length)(av:0<=d.kids[k])(U:d.kids[k]<i) :
  kS t (P.set d.kids[k].toNat (P.getD d.kids[k].toNat 0+1)) (vN t i d (k+1)):=by
 have bj:d.kids[k].toNat<P.length:=by omega
 rcases h with⟨s,a6,bb,b0⟩ | ⟨a6,j,bb,b0⟩
 ·have fY:d.kids[k].toNat<s.length:=by omega
  have ao:P.getD d.kids[k].toNat 0=y3 (s.getD d.kids[k].toNat false):=by rw[bb];simp[bV,fY]
  cases ah:s.getD d.kids[k].toNat false with
  |false=>
   refine .inl ⟨s.set d.kids[k].toNat true,by simpa using a6,?_,?_⟩;·rw[ao,ah,bb,CH];rfl
   ·rw[b0,vN,dv af,iA,ah];simp only[Bool.or_false];rw[dk (by omega),dk (by omega)];rfl
  |true=>
   refine .inr ⟨?_,d.kids[k].toNat,by omega,?_⟩;·rw[b0,vN,dv af,iA,ah];simp
   ·rw[ao,ah];simp[bV,iz,bj,y3]
 ·refine .inr ⟨a6,j,bb,?_⟩;simp only[bV,iz]at b0 |-;by_cases e:d.kids[k].toNat=j
  ·subst e;simp[bj]at b0 |-;omega
  ·rw[cB e];exact b0
def kS.leave{i k:Nat}(h:kS t P (vN t i d k))(af:d.kids.length<=k):kS t P (sY t (i+1)):=by
 rcases h with⟨s,U,ab,ak⟩ | h
 ·refine .inl ⟨s,U,ab,?_⟩;rw[ak,vN,iW af];rfl
 ·exact .inr h
def F2.sN{W:Int}(h:F2 t P W){k:Nat}(af:k<P.length):F2 t (P.set k (P.getD k 0+1)) (W+1):=by
 refine⟨by simpa using h.len,λc aC=>?_⟩;have ao:P.getD k 0∈P:=by simp only[bV,ev af,je];exact bJ af
 have:=h.hU _ ao;rcases FT aC with aC | rfl
 ·have:=h.hU c aC;omega
 ·omega
def vO(t:bx)(P:List Int)(i:Nat):Bool:=(decide ((i:Int)=t.root) && !decide (P.getD i 0=0))||(!decide ((i:Int)=t.root) && !decide (P.getD i 0=1))
def kS.bad(h:kS t P (sY t t.aa.length)){i:Nat}(hi:i<t.aa.length)(a0:vO t P i=true):right t=false:=by
 rcases h with⟨s,U,ab,ak⟩ | h
 ·rw[sY,List.drop_length,gS]at ak;have:oT t.root 0 s=false:=by
   refine JA (j:=i) (by omega) ?_;have ao:P.getD i 0=y3 (s.getD i false):=by rw[ab];simp[bV,U,hi]
   rw[vO,ao]at a0;rw[cM];generalize s.getD i false=x at a0 |-;cases x<;>cases al:decide ((i:Int)=t.root)<;>simp_all[y3]
  simp[right,ak,this]
 ·exact NO h.1
def kS.tY(h:kS t P (sY t t.aa.length))(av:0<=t.root/\t.root<t.aa.length)(a0:∀ i,i<t.aa.length->vO t P i=false):right t=true:=by
 rcases h with⟨s,U,ab,ak⟩ | ⟨U,k,ab,ak⟩
 ·rw[sY,List.drop_length,gS]at ak;have:oT t.root 0 s=true:=by
   refine NN λi hi=>?_;have ao:P.getD i 0=y3 (s.getD i false):=by rw[ab];simp[bV,hi]
   have xE:=a0 i (by omega);rw[vO,ao]at xE;rw[cM];generalize s.getD i false=x at xE |-;cases x<;>cases al:decide ((i:Int)=t.root)<;>simp_all[y3]
  simp[right,ak,this,av.1,av.2]
 ·have:=a0 k ab;simp only[vO,qB,IZ,rA,I2,fk]at this;omega
def xF(aq:t.ok I)(W:Nat)(gi:∀ d∈t.aa,d.aZ<=W)(ah:t.n*W<=1152921504606846976):Spec Tryz.prog 90 [t.val] I [] λv I' M'=>v=.bool (right t)/\I'=I/\M'=[]:=by
 refine bn [] aI Tryz.func90 rfl rfl rfl ?_;intro B av;have g7:=aq.n;have gk:=aq.aJ.cap;refine a9.mk (λh=>?_) (λh=>?_)
 rotate_left
 ·refine⟨_,_,.refl,?_,rfl,rfl⟩;have:t.root<0:=by simpa using h
  rw[show right t=false by simp[right];omega]
 have g3:0<=t.root:=by have:=cR h;omega
 refine aB.mk (λab=>?_) (λab=>?_)
 ·refine⟨_,_,.refl,?_,rfl,rfl⟩;have:=cq ab;rw[show right t=false by simp[right];omega]
 have gI:t.root<t.n:=by have:=cR ab;omega
 refine mO.mk t.n t.n rfl rfl (b2 _) (by show 8*t.n<=_;omega) (by omega) ?_;refine bL.mk λb1 jG F3=>?_;refine bu.inv (ι:=Nat×List Int) (λx=>{ a4:=[(1,.ref 1 0),(3,.val (.slice (some ⟨b1,0,none⟩) t.n t.n)),(4,.val (.int .i64 x.1))],cl:=[(1,t.cells)],br:=I,bO:=[eC b1 x.2] }) (λx=>x.1<=t.n/\F2 t x.2 (x.1*W:Nat)/\kS t x.2 (sY t x.1)) (λx=>t.n-x.1) ?_ ?_
 ·refine⟨(0,List.replicate t.n 0),⟨bQ _,⟨by simp[g7],λc aC=>by have:=Ju aC;simp only;omega⟩,by rw[<-g7];exact kS.start t⟩,?_,cU,.cons rfl .nil⟩;simp only[tJ,eC,yB,fh];exact .refl
 rintro⟨i,P⟩⟨hi,ja,e4⟩;simp only at hi ja e4;have Dg:=ja.len;refine aB.mk (λh=>?_) (λh=>?_)
 ·have ax:i<t.n:=by have:=cq h;omega
  have bo:i<t.aa.length:=by omega
  obtain⟨ad,ba,a3⟩:=aq.aJ.row aH.bI ax bo;have cN:t.aa[i]∈t.aa:=bJ bo;have al:=aq.aa _ cN;have eR:=al.aZ;have Vs:=gi _ cN;have agb:=al.aJ.cap;have agc:(i+1)*W<=1152921504606846976:=k5 (rl W ax) ah;rw[lG,qD]at agc;refine aW.mk ad i ba rfl ax ?_;refine aE.mk _ (a3 _) ?_;refine aU.mk [] _ _ (.refl _) (af9 al.k t.aa[i].aZ) ?_;rintro v dG ew -⟨rfl,rfl,rfl⟩;rw[<-eR];refine aB.mk (λak=>?_) (λak=>?_);·refine⟨_,_,.sub (cW _) .refl,?_,rfl,rfl⟩;rw[e4.aga bo (by simpa using ak)]
  have e4:=e4.enter bo (by simpa using ak);generalize eY:t.aa[i]=d at al eR Vs agb a3 e4;refine bu.inv (ι:=Nat×List Int) (λx=>{ a4:=[(1,.ref 1 0),(3,.val (.slice (some ⟨b1,0,none⟩) t.n t.n)),(4,.val (.int .i64 i)),(5,.ref 5 0),(6,.val (.int .i64 x.1))],cl:=[(1,t.cells),(5,d.cells)],br:=dG,bO:=[eC b1 x.2] }) (λx=>x.1<=d.aZ/\F2 t x.2 (i*W+x.1:Nat)/\kS t x.2 (vN t i d x.1)) (λx=>d.aZ-x.1) ?_ ?_;·exact⟨(0,P),⟨bQ _,ja,e4⟩,.refl,ec,.cons rfl (.cons rfl .nil)⟩
  rintro⟨k,Q⟩⟨af,nZ,sZ⟩;simp only at af nZ sZ;have Vt:=nZ.len;refine aB.mk (λaL=>?_) (λaL=>?_)
  ·have bj:k<d.aZ:=by have:=cq aL;omega
   have gy:k<d.kids.length:=by omega
   obtain⟨eU,eO,eB⟩:=al.aJ.one bj gy;refine aW.mk eU k eO rfl bj ?_;refine aE.mk _ (eB _) ?_;refine a9.mk (λbm=>?_) (λbm=>?_)
   rotate_left
   ·refine⟨_,_,.sub (cW _) .refl,?_,rfl,rfl⟩;rw[sZ.out gy (.inl (by simpa using bm))]
   have gT:0<=d.kids[k]:=by have:=cR bm;omega
   refine aW.mk eU k eO rfl bj ?_;refine aE.mk _ (eB _) ?_;refine aB.mk (λb5=>?_) (λb5=>?_);·refine⟨_,_,.sub (cW _) .refl,?_,rfl,rfl⟩;rw[sZ.out gy (.inr (cq b5))]
   have ny:d.kids[k]<i:=by have:=cR b5;omega
   have F4:d.kids[k].toNat<Q.length:=by omega
   have aqK:0<=Q[d.kids[k].toNat]/\Q[d.kids[k].toNat]<=(i*W+k:Nat):=nZ.hU _ (bJ F4);have agd:Q.getD d.kids[k].toNat 0=Q[d.kids[k].toNat]:=by simp[bV,F4]
   have Vu:=sZ.sN Vt (by omega) gy gT ny;have Vv:=nZ.sN F4;rw[agd]at Vu Vv;refine aW.mk eU k eO rfl bj ?_;refine aE.mk _ (eB _) ?_;refine aW.mk ⟨b1,0,none⟩ d.kids[k].toNat rfl (by omega) (by omega) ?_;refine aE.mk _ (CM (s:=Q) (.head _) F4) ?_;refine aQ.mk (Q[d.kids[k].toNat]+1) (ku rfl (by omega)) ?_;refine aW.mk ⟨b1,0,none⟩ d.kids[k].toNat rfl (by omega) (by omega) ?_;refine cu.add [] [] _ _ rfl ?_ rfl ?_;·simp only[jZ,cT];show 0+d.kids[k].toNat*1+1<=_;omega
   have e:=AF Q d.kids[k].toNat F4 (Q[d.kids[k].toNat]+1);refine aQ.mk _ (bl (i:=k) (by omega)) ?_;refine⟨(k+1,Q.set d.kids[k].toNat (Q[d.kids[k].toNat]+1)),⟨⟨by simp only;omega,?_,Vu⟩,by simp only;omega⟩,?_,ec,.cons rfl (.cons rfl .nil)⟩;·simp only;rw[show((i*W+(k+1):Nat):Int)=((i*W+k:Nat):Int)+1 by omega];exact Vv
   ·simp only[eC];rw[<-e];simp only[cM,fh];exact .refl
  ·have bS:d.aZ<=k:=by have:=cR aL;omega
   refine aQ.mk _ (bl (i:=i) (by omega)) ?_;refine⟨(i+1,Q),⟨⟨by simp only;omega,⟨Vt,λc aC=>?_⟩,sZ.leave (by omega)⟩,by simp only;omega⟩,.refl,cU,.cons rfl .nil⟩;have:=nZ.hU c aC;simp only[lG,qD];omega
 have bS:i=t.n:=by have:=cR h;omega
 have F5:kS t P (sY t t.aa.length):=by rw[g7,<-bS];exact e4
 clear ja h hi e4;subst bS;refine bu.inv (ι:=Nat) (λx=>{ a4:=[(1,.ref 1 0),(3,.val (.slice (some ⟨b1,0,none⟩) t.n t.n)),(7,.val (.int .i64 x))],cl:=[(1,t.cells)],br:=I,bO:=[eC b1 P] }) (λx=>x<=t.n/\∀ j,j<x->vO t P j=false) (λx=>t.n-x) ?_ ?_
 ·exact⟨0,⟨bQ _,λj aj=>by omega⟩,.refl,cU,.cons rfl .nil⟩
 rintro i⟨hi,a0⟩;refine aB.mk (λh=>?_) (λh=>?_)
 rotate_left
 ·have bS:i=t.n:=by have:=cR h;omega
  refine⟨_,_,.sub (cW _) .refl,?_,rfl,rfl⟩;rw[F5.tY ⟨g3,by omega⟩ λj aj=>a0 j (by omega)]
 have ax:i<t.n:=by have:=cq h;omega
 have Vw:i<P.length:=by omega
 have a3:bq I [eC b1 P] ((⟨b1,0,none⟩:Addr).add (i*1)) 1 [.int .i64 P[i]]:=CM (.head _) Vw;have ao:P.getD i 0=P[i]:=by simp[bV,Vw]
 have nC:vO t P i=true->right t=false:=F5.bad (by omega);have dK:vO t P i=false->∀ j,j<i+1->vO t P j=false:=λh j aj=>by
  by_cases e:j=i;·rw[e];exact h
  ·exact a0 j (by omega)
 rw[vO,ao]at nC dK;clear h a0 F5;generalize P[i]=c at nC dK a3;refine a9.mk (λh=>?_) (λh=>?_)
 ·rw[h]at nC dK;refine aW.mk ⟨b1,0,none⟩ i rfl rfl ax ?_;refine aE.mk _ a3 ?_;refine a9.mk (λab=>?_) (λab=>?_)
  ·refine a9.mk (λak=>?_) (λ_=>?_)
   ·exfalso;rw[h]at ak;cases ak
   ·refine aQ.mk _ (bl (i:=i) (by omega)) ?_;exact⟨i+1,⟨⟨by omega,dK (by simp[ab])⟩,by omega⟩,.refl,cU,.cons rfl .nil⟩
  ·refine⟨_,_,.sub (cW _) .refl,?_,rfl,rfl⟩;rw[nC (by simp[ab])]
 ·rw[show decide ((i:Int)=t.root)=false from h]at nC dK;refine a9.mk (λak=>?_) (λak=>?_)
  ·refine aW.mk ⟨b1,0,none⟩ i rfl rfl ax ?_;refine aE.mk _ a3 ?_;refine aB.mk (λab=>?_) (λab=>?_)
   ·refine⟨_,_,.sub (cW _) .refl,?_,rfl,rfl⟩;rw[nC (by simp[ab])]
   ·refine aQ.mk _ (bl (i:=i) (by omega)) ?_;exact⟨i+1,⟨⟨by omega,dK (by simp[ab])⟩,by omega⟩,.refl,cU,.cons rfl .nil⟩
  ·exfalso;rw[show decide ((i:Int)=t.root)=false from h]at ak;cases ak
structure NP(I:aT)(a:Option Addr)(c:Nat)(k:Int)(s:ByteArray):Prop where
 aJ:gb I a 1 c 9 96 (F0 k s).cells
def NP.rd{a:Option Addr}{c:Nat}{k:Int}{s:ByteArray}(h:NP I a c k s):∃ ad,a=some ad/\∀ M,bq I M (ad.add (0*9)) 9 (F0 k s).cells:=by have:=gb.row (f:=aH.cells) (l:=[F0 k s]) aH.bI (size:=9) (j:=0) (by simpa using h.aJ) (by decide) (b2 1);simpa using this
def bk.bE{X:cO}{o:Oper}{F:Fr}{C:c8}{K:fZ}(h:bk X o F C I M (λF C I M=>(M.map (·.num)).Nodup->(∀ x∈M,I x.num=none)->K F C I M)):bk X o F C I M K:=
 ⟨λa w Q a5=>st (λch w'=>λ⟨dN,C',I',M',⟨β,ag⟩,af⟩=>⟨dN,C',I',M',⟨β,ag⟩,af ag.holds.bE ag.holds.d⟩) (h.1 a w Q a5)⟩
def NQ(bf:os.ok size xs){g c:Nat}(aA:vL.length=size)(U:cur.length=c*size)(ab:os.n+1<=c)(ak:c<=maxLen)(aL:cur.take ((os.n+1)*size)=xs++vL) :
  aY.ok ⟨some g,os.n+1,c,cur⟩ size (xs++vL):=by
 have ay:=bf.len;refine⟨?_,(λh=>by cases h),λb0 oX=>⟨U,ab,ak,aL⟩⟩;rw[cz,ay,aA];simp only;rw[lG,qD]
abbrev y4:=bx×Int×ByteArray
def y4.bE(x:y4):aH:=F0 x.2.1 x.2.2
structure y4.ok(I:aT)(x:y4):Prop where
 t:x.1.ok I
 aa:x.1.aa=[x.bE]
 root:x.1.root=0
 fits:af5 x.bE 0=true
def y4.ok.at{x:y4}(h:y4.ok I x):∃ a c,x.1.cells=[.slice a 1 c,.int .i64 0]/\NP I a c x.2.1 x.2.2:=by obtain⟨⟨aa,a,n,c,root⟩,k,s⟩:=x;obtain⟨aq,U,ab,ak⟩:=h;have jL:aa=[F0 k s]:=U;clear U ak;simp only at ab aq;subst jL;subst ab;have az:=aq.n;simp only[cS,dI]at az;subst az;exact⟨a,c,rfl,⟨by simpa[y4.bE]using aq.aJ⟩⟩
def g'(aa:List aH):Int->Nat:=oU 0 (λd g=>1+eV g d.kids) aa
def vP(ag:right t=true){j:Nat}(aj:j<t.aa.length):g' t.aa j=1+eV (g' t.aa) t.aa[j].kids:=
 AI (λd g dh h=>by rw[Um h]) ag aj
def Vx(ag:right t=true):g' t.aa t.root<=t.aa.length:=by
 have:=MP ag (g:=g' t.aa) (c:=λ_=>1) λj aj=>by rw[vP ag aj];exact b2 _
 rwa [I5,qD]at this
def Vy{i:Nat}:∀ {ks:List Int} {s b3:List Bool},iA i ks s=some b3->∀ j,b3.getD j false=true->s.getD j false=true\/((j:Int)∈ks/\j<i)
 |[],s,b3,h,j,aj=>by simp only[iA,jY]at h;subst h;exact .inl aj
 |k::ks,s,b3,h,j,aj=>by
  unfold iA at h;cases ah:decide (k<0)||(decide ((i:Int)<=k)||s.getD k.toNat false)with
  |true=>rw[ah]at h;cases h
  |false=>
   rw[ah]at h;simp only[bz]at h;simp only[qB,rA]at ah;rcases Vy h j aj with U | U
   ·by_cases e:k.toNat=j
    ·right
     refine⟨?_,by omega⟩;have:(j:Int)=k:=by omega
     rw[this];exact .head _
    ·left
     simp only[bV,iz]at U |-;rwa [cB e]at U
   ·exact .inr ⟨.tail _ U.1,U.2⟩
def Vz:∀ {ds:List aH} {i:Nat} {s b3:List Bool},gS i ds s=some b3->∀ j,b3.getD j false=true->s.getD j false=true\/∃ q,∃ h:q<ds.length,(j:Int)∈ds[q].kids/\j<i+q
 |[],i,s,b3,h,j,aj=>by simp only[gS,jY]at h;subst h;exact .inl aj
 |d::ds,i,s,b3,h,j,aj=>by
  unfold gS at h;cases au:fits d d.kids.length with
  |false=>rw[au]at h;cases h
  |true=>
   rw[au]at h;simp only[bt]at h;split at h
   ·rename_i s1 eu;rcases Vz h j aj with U | ⟨q,a0,U,ab⟩
    ·rcases Vy eu j U with ak | ⟨ak,aL⟩
     ·exact .inl ak
     ·exact .inr ⟨0,by simp,ak,by omega⟩
    ·exact .inr ⟨q+1,by simpa using a0,by simpa using U,by omega⟩
   ·cases h
def VA(ag:right t=true){j:Nat}(aj:j<t.aa.length)(bB:(j:Int)≠t.root):∃ p,∃ h:p<t.aa.length,(j:Int)∈t.aa[p].kids/\j<p:=by
 unfold right at ag;simp only[b']at ag;obtain⟨_,_,ag⟩:=ag;split at ag
 ·rename_i s ar;have fY:=(MO (g:=λ_=>0) (c:=λ_=>0) ar (by simp) (λj aj=>by simp)).1;have hm:s.getD j false=true:=by
   cases ah:s.getD j false with
   |true=>rfl| false=>have:=JA (root:=t.root) (s:=s) (i:=0) (j:=j) (by rw[fY];simpa using aj) (by rw[ah,cM];simp[bB]);rw[this]at ag;cases ag
  rcases Vz ar j hm with U | ⟨q,a0,U,ab⟩;·simp[bV,aj]at U
  ·exact⟨q,a0,U,by omega⟩
 ·cases ag
def JB{g:Int->Nat}:∀ {ks:List Int} {k:Int},k∈ks->g k<=eV g ks
 |a::ks,k,h=>by
  simp only[eV,cZ,n4];rcases ea.1 h with rfl | h;·omega
  ·have:=JB (g:=g) h;simp only[eV]at this;omega
def y5{t:bx}(ag:right t=true):∀ (m j:Nat),j<t.aa.length->t.aa.length-j<=m->g' t.aa j<=t.aa.length
 |0,j,aj,hm=>by omega
 |m+1,j,aj,hm=>by
  by_cases e:(j:Int)=t.root;·rw[e];exact Vx ag
  ·obtain⟨p,aN,af,ax⟩:=VA ag aj e;have U:=y5 ag m p aN (by omega);rw[vP ag aN]at U;have:=JB (g:=g' t.aa) af;omega
def vQ(g:Int->Nat)(a b:List Int):eV g (a++b)=eV g a+eV g b:=by simp[eV]
def y6{t:bx}(ag:right t=true):∀ {l:List Int},valid t.aa.length l->l.length<=eV (g' t.aa) l
 |[],_=>by simp
 |a::l,ai=>by have U:=y6 ag (l:=l) λk af=>ai k (.tail _ af);have ab:=ai a (.head _);obtain⟨a,rfl⟩:=en ab.1;have ak:=vP ag (j:=a) (by omega);simp only[eV,cZ,n4,cS]at U |-;have aL:g' t.aa (Int.ofNat a)=g' t.aa a:=rfl;omega
def rZ(aa:List aH):Nat->List Int->List Int->List Int
 |0,_,b=>b
 |f+1,todo,b=>match todo.getLast? with
  |none=>b| some n=>rZ aa f (todo.dropLast++(nodeAt aa n.toNat).kids) (b++[n])
def xG(aa:List aH)(node:Int):List Int:=rZ aa (aa.length+1) [node] []
def NR(aa:List aH)(f:Nat)(b:List Int):rZ aa f [] b=b:=by cases f<;>rfl
def NS(aa:List aH)(f:Nat)(todo:List Int)(n:Int)(b:List Int):rZ aa (f+1) (todo++[n]) b=rZ aa f (todo++(nodeAt aa n.toNat).kids) (b++[n]):=by rw[rZ];simp only[I0,I1]
def aH.a1(d:aH):aH:=⟨d.k,d.cF,d.s1,d.s2,d.dt,d.t,d.lo,d.hi,none,0,0,d.kids⟩
def aH.m6(d:aH)(l:List Int):aH:=⟨d.k,d.cF,d.s1,d.s2,d.dt,d.t,d.lo,d.hi,none,0,0,l⟩
def A8(aa:List aH)(b4:List Int×List aH)(b:Int):List Int×List aH:=
 (b4.1.set b.toNat b4.2.length,b4.2++[(nodeAt aa b.toNat).m6 ((nodeAt aa b.toNat).kids.map λk=>(b4.1.set b.toNat b4.2.length).getD k.toNat 0)])
def mz(aa:List aH)(node:Int):List aH:=((xG aa node).reverse.foldl (A8 aa) (List.replicate aa.length 0,[])).2
def aY.pop{x:Value}(h:os.ok 1 (xs++[x])):aY.ok ⟨os.a,os.n-1,os.c,os.cur⟩ 1 xs:=by
 have ay:=h.len;simp only[cz,cS,dI,fh]at ay;refine⟨by simp only;omega,λaX=>?_,λg ao=>?_⟩
 ·have:=h.nil aX;simp only;omega
 ·obtain⟨U,ab,ak,aL⟩:=h.cap g ao;refine⟨U,by simp only;omega,ak,?_⟩;simp only;have e:os.n*1=xs.length+1:=by omega
  rw[e]at aL;have:os.cur.take xs.length=(os.cur.take (xs.length+1)).take xs.length:=by rw[xd];congr 1;omega
  rw[show(os.n-1)*1=xs.length by omega,this,aL,CG]
def age{m:Nat}(bf:os.ok size xs){g c:Nat}(aA:vL.length=m*size)(U:cur.length=c*size)(ab:os.n+m<=c)(ak:c<=maxLen)(aL:cur.take ((os.n+m)*size)=xs++vL) :
  aY.ok ⟨some g,os.n+m,c,cur⟩ size (xs++vL):=by
 have ay:=bf.len;refine⟨?_,(λh=>by cases h),λb0 oX=>⟨U,ab,ak,aL⟩⟩;rw[cz,ay,aA];simp only;rw[lG]
structure NT(t:bx)(node:Int)(x:aY×List Int×aY×List Int×Nat):Prop where
 todo:x.1.ok 1 (x.2.1.map (.int .i64 ·))
 back:x.2.2.1.ok 1 (x.2.2.2.1.map (.int .i64 ·))
 aqL:valid t.aa.length x.2.1
 aqM:valid t.aa.length x.2.2.2.1
 sum:eV (g' t.aa) x.2.1+x.2.2.2.1.length=g' t.aa node
 eH:eV (g' t.aa) x.2.1+1<=x.2.2.2.2
 eq:xG t.aa node=rZ t.aa x.2.2.2.2 x.2.1 x.2.2.2.1
structure VB(I:aT)(t:bx)(cA:List Int)(x:Nat×List Int×aY×List aH×aT):Prop where
 j:x.1<=cA.length
 len:x.2.1.length=t.aa.length
 out:x.2.2.1.ok 9 (x.2.2.2.1.flatMap aH.cells)
 on:x.2.2.2.1.length=x.1
 eq:(cA.take x.1).foldl (A8 t.aa) (List.replicate t.aa.length 0,[])=(x.2.1,x.2.2.2.1.map aH.a1)
 ok:∀ d∈x.2.2.2.1,d.ok x.2.2.2.2
 le:∀ b o,I b=some o->x.2.2.2.2 b=some o
 hU:∀ c∈x.2.1,0<=c/\c<=cA.length
 Dh:∀ d∈x.2.2.2.1,∀ k∈d.kids,0<=k/\k<=cA.length
set_option maxRecDepth 100000 in
def agf(aq:t.ok I)(ag:right t=true)(W:Nat)(gi:∀ d∈t.aa,d.aZ<=W)(ah:t.n*W<=1152921504606846976)(az:t.n<=1099511627776){node:Nat}(F6:node<t.n) :
  Spec Tryz.prog 138 [t.val,.int .i64 node] I [] λv I' M'=>(∀ b o,I b=some o->I' b=some o)/\M'=[]/\∃ bh:bx,v=.tuple #[bh.val,.bool true]/\bh.ok I'/\bh.aa.map aH.a1=mz t.aa node/\bh.root=(bh.aa.length:Int)-1/\bh.aa.length<=t.n/\∀ d∈bh.aa,∀ k∈d.kids,0<=k/\k<=t.n:=by
 refine Is [] aI Tryz.func138 rfl rfl rfl ?_;intro B av;have g7:=aq.n;have gk:=aq.aJ.cap;have agh:g' t.aa node<=t.aa.length:=y5 ag t.aa.length node (by omega) (by omega);refine aU.mk [] [] _ (.refl _) (xF aq W gi ah) ?_;rintro v I' M' -⟨rfl,rfl,rfl⟩;rw[ag];refine a9.mk (λ_=>?_) (λh=>by simp at h);refine a9.mk (λ_=>?_) (λh=>?_)
 rotate_left
 ·have:((node:Nat):Int)<0:=cq h;omega
 refine aB.mk (λh=>?_) (λ_=>?_)
 ·have:((t.n:Nat):Int)<=((node:Nat):Int):=cq h;omega
 refine bL.mk λb1 jG F3=>?_;refine bu.inv (ι:=aY×List Int×aY×List Int×Nat) (λx=>{ a4:=[(2,.ref 2 0),(4,.ref 4 0),(6,.val x.2.2.1.val),(7,.val x.1.val)],cl:=[(2,t.cells),(4,[.slice none 0 0,.int .i64 0])],br:=I',bO:=x.2.2.1.aw 3++x.1.aw 3 }) (NT t node) (λx=>eV (g' t.aa) x.2.1) ?_ ?_
 ·refine⟨(⟨some b1,1,1,[.int .i64 node]⟩,[(node:Int)],fs,[],t.aa.length+1),⟨⟨rfl,(λh=>by cases h),λdh mb=>⟨rfl,b2 _,by simp[maxLen],rfl⟩⟩,fT 1,λk af=>?_,(λk af=>by cases af),?_,?_,rfl⟩,.refl,cI,.cons rfl (.cons rfl .nil)⟩
  ·simp only[fb]at af;omega
  ·simp[eV]
  ·simp only[eV,cZ,jj,n4,CX];omega
 rintro⟨todo,A9,back,dT,f⟩⟨oj,qR,vR,vS,xH,y7,pN⟩;simp only at oj qR vR vS xH y7 pN;have nt:=qR.o1;have oZ:=oj.o1;refine aB.mk (λh=>?_) (λh=>?_)
 ·have agi:0<todo.n:=by have:(0:Int)<(todo.n:Int):=cq h;omega
  obtain⟨fK,m,rfl⟩:∃ fK m,A9=fK++[m]:=by
   rcases xb A9 with U | ⟨r,p,U⟩;·subst U;simp at oZ;omega
   ·exact⟨r,p,by simpa using U⟩
  have hm:=vR m (by simp);obtain⟨m,rfl⟩:=en hm.1;have gz:m<t.n:=by omega
  have jK:m<t.aa.length:=by omega
  have F7:todo.n=fK.length+1:=by simpa using oZ
  have F8:=vP ag jK;rw[vQ]at xH y7;have eu:eV (g' t.aa) [(m:Int)]=g' t.aa m:=by simp[eV]
  rw[eu,F8]at xH y7;have agj:fK.length<=eV (g' t.aa) fK:=y6 ag λk af=>vR k (by simp[af]);have agk:t.aa[m].kids.length<=eV (g' t.aa) t.aa[m].kids:=y6 ag λk af=>by have:=h1 ag m jK k af;omega
  have VC:fK.length+t.aa[m].kids.length<=t.aa.length:=by omega
  obtain⟨ad,ba,a3⟩:=aY.FR (I:=I') (e:=3) (M:=back.aw 3++todo.aw 3) oj (λx ae=>by simp[ae]) (j:=fK.length) (by simp);rw[NB rfl]at a3;have ug:=oj;rw[eL]at ug;have ug:=aY.pop ug;refine aQ.mk ((fK.length:Nat):Int) (ku (by simp only[aY.val];omega) (by omega)) ?_;refine aW.mk ad fK.length ba rfl (show fK.length<todo.n by omega) ?_;refine aE.mk _ a3 ?_;refine aQ.mk ((fK.length:Nat):Int) (ku (by simp only[aY.val];omega) (by omega)) ?_;refine jv.mk 0 fK.length rfl rfl (bQ _) ?_ ?_
  ·have:=oj.cap;obtain⟨hp,on,qS,agl⟩:=todo;cases hp with
   |none=>have:=(oj.nil rfl).1;simp only at this F7;omega| some F9=>obtain⟨-,ab,-,-⟩:=oj.cap F9 rfl;simp only at ab F7 |-;omega
  refine bL.mk λcc hc FL=>?_;refine bk.append aI rfl (by simp) (e:=3) rfl rfl rfl back qR rfl (m:=1) rfl (news:=[.int .i64 m]) (by decide) (dj (b:=cc) (cs:=[.int .i64 m]) (k:=0) (n:=1) (T:=3) (.head _) (by simp)) rfl (Mr:=⟨cc,.cells #[.int .i64 m] 3 (0,0)⟩::todo.aw 3) o3.symm (by simp only[maxLen];omega) (by show(back.n+1)*8<=_;omega) ?_;intro a6 c6 F' c5 c7 dS eP;have agm:aY.ok ⟨some a6,back.n+1,c6,F'⟩ 1 ((dT++[(m:Int)]).map (.int .i64 ·)):=by rw[eL];exact xv qR c5 c7 dS eP
  obtain⟨tZ,rT,ji⟩:=aq.aJ.row aH.bI gz jK;have al:=aq.aa _ (bJ jK);have eR:=al.aZ;have qT:=al.aJ.cap;have fC:=h1 ag m jK;have agn:valid t.aa.length (fK++t.aa[m].kids):=λk af=>by
   rcases dm.1 af with af | af;·exact vR k (by simp[af])
   ·have:=fC k af;omega
  have ago:valid t.aa.length (dT++[(m:Int)]):=λk af=>by
   rcases dm.1 af with af | af;·exact vS k af
   ·simp only[fb]at af;omega
  have agp:∀ pO,f=pO+1->xG t.aa node=rZ t.aa pO (fK++t.aa[m].kids) (dT++[(m:Int)]):=λpO sJ=>by rw[pN,sJ,NS,lz,jO jK]
  have hinv:∀ Di:aY,Di.ok 1 ((fK++t.aa[m].kids).map (.int .i64 ·))->NT t node (Di,fK++t.aa[m].kids,⟨some a6,back.n+1,c6,F'⟩,dT++[(m:Int)],f-1):=λDi pL=>by
   refine⟨pL,agm,agn,ago,?_,?_,agp (f-1) (by omega)⟩;·simp only[vQ,cz,cS,dI];omega
   ·simp only[vQ];omega
  have sU:eV (g' t.aa) (fK++t.aa[m].kids)<eV (g' t.aa) (fK++[(m:Int)]):=by rw[vQ,vQ,eu,F8];omega
  refine aW.mk tZ m rT rfl gz ?_;refine aE.mk _ ((ji _).part (k:=8) (m:=1) (by decide)) ?_;generalize eY:t.aa[m]=d at al eR qT ji hinv sU VC;by_cases gT:d.aZ=0
  ·have mW:d.kids=[]:=hZ (by omega);rw[mW,db]at hinv sU;refine bk.IP aI rfl (by simp) (e:=3) (sa:=todo.a.map λg=>⟨g,0,none⟩) (n:=fK.length) (c:=todo.c) rfl rfl rfl (by simp) rfl rfl ?_ rfl (.inl ⟨d.eA,d.ej,by rw[<-gT];rfl⟩) ?_
   ·obtain⟨hp,on,qS,agl⟩:=todo;cases hp with
    |none=>have:=(oj.nil rfl).1;simp only at this F7;omega| some F9=>obtain⟨-,ab,-,-⟩:=oj.cap F9 rfl;simp only at ab F7 |-;omega
   have he:todo.n-1=fK.length:=by omega
   refine⟨_,⟨hinv _ ug,sU⟩,.sub (M1:=⟨a6,.cells F'.toArray 3 (0,0)⟩::todo.aw 3) (.cons_cons _ (.cons _ (.refl _))) .refl,.cons .refl (.cons .refl (.cons .refl (.cons ?_ .nil))),.cons rfl (.cons rfl .nil)⟩;simp only[aY.val,he];exact .refl
  ·obtain⟨eU,eO,c4,cs,T,an,cg,ai⟩:=al.aJ.rd.resolve_left gT;have VD:aY.ok ⟨todo.a,fK.length,todo.c,todo.cur⟩ 1 (fK.map (.int .i64 ·)):=by
    have he:todo.n-1=fK.length:=by omega
    rw[<-he];exact ug
   refine bk.append aI rfl (by simp) (e:=3) rfl rfl rfl ⟨todo.a,fK.length,todo.c,todo.cur⟩ VD rfl (ad:=eU) (m:=d.aZ) (c':=d.ej) (by rw[<-eO];rfl) (news:=d.kids.map (.int .i64 ·)) (by omega) ⟨c4,cs,T,an,.inl cg,ai,by simp[eR]⟩ ?_ (Mr:=[⟨a6,.cells F'.toArray 3 (0,0)⟩,⟨cc,.cells #[.int .i64 m] 3 (0,0)⟩]) (gQ (l₁:=[_,_])) (by simp only[maxLen];omega) (by show(fK.length+d.aZ)*8<=_;omega) ?_;·simp[gh,Value.oneCell']
   intro bb dg s0 ha gf h6 oh;refine⟨(⟨some bb,fK.length+d.aZ,dg,s0⟩,_,_,_,_),⟨hinv _ ?_,sU⟩,.sub (M1:=[⟨bb,.cells s0.toArray 3 (0,0)⟩,⟨a6,.cells F'.toArray 3 (0,0)⟩]) (.cons_cons _ (.cons_cons _ (cW _))) (.perm (List.Perm.swap _ _ _) .refl),cI,.cons rfl (.cons rfl .nil)⟩;rw[eL];exact age VD (by simp[eR]) ha gf h6 oh
 have NU:A9=[]:=by have:¬ (0:Int)<(todo.n:Int):=cR h;exact hZ (by omega)
 subst NU;rw[NR]at pN;simp only[eV,jj,CX,cM]at xH;clear y7 oj vR h;refine mO.mk t.n t.n rfl rfl (b2 _) (by show 8*t.n<=_;omega) (by omega) ?_;refine bL.mk λbT h3 iF=>?_;refine aQ.mk ((dT.length:Int)-1) (ku (by simp only[aY.val];omega) (by omega)) ?_;refine bu.yo (ι:=Nat×List Int×aY×List aH×aT) (λx=>{ a4:=[(2,.ref 2 0),(4,.ref 4 0),(6,.val back.val),(9,.val (.slice (some ⟨bT,0,none⟩) t.n t.n)),(10,.val x.2.2.1.val),(11,.val (.int .i64 ((dT.length:Int)-1-x.1)))],cl:=[(2,t.cells),(4,[.slice none 0 0,.int .i64 0])],br:=x.2.2.2.2,bO:=eC bT x.2.1::(x.2.2.1.aw 61++back.aw 3) }) (VB I' t dT.reverse) (λx=>dT.length-x.1) ?_ ?_
 ·intro _;refine⟨(0,List.replicate t.n 0,fs,[],I'),⟨bQ _,by simp[g7],fT 9,rfl,(by rw[g7];rfl),(λd al=>by cases al),λ_ _ h=>h,(λc aC=>by have:=Ju aC;omega),(λd al=>by cases al)⟩,?_,.cons .refl (.cons .refl (.cons .refl (.cons .refl (.cons .refl (.cons ?_ .nil))))),.cons rfl (.cons rfl .nil)⟩
  ·simp only[tJ,eC,yB,fh];exact .sub (M1:=⟨bT,.cells (List.replicate t.n (Value.int .i64 0)).toArray 3 (0,0)⟩::(fs.aw 61++back.aw 3)) (.cons_cons _ (CQ _ _)) .refl
  ·simp only[Int.ofNat_zero,Int.sub_zero];exact .refl
 rintro⟨j,P,out,m7,J⟩⟨aj,Dg,uh,hV,vT,y8,bg,Dj,gW⟩;simp only at aj Dg uh hV vT y8 bg Dj gW;rw[FU]at aj Dj gW;have jP:out.n=j:=by have:=uh.len;rw[gd _ 9 aH.bI,hV]at this;omega
 subst jP;refine aB.mk (λh=>?_) (λh=>?_)
 ·have eS:out.n<dT.length:=by have:(0:Int)<=(dT.length:Int)-1-(out.n:Int):=cq h;omega
  have Dk:out.n<dT.reverse.length:=by simpa using eS
  have VE:dT.length-1-out.n<dT.length:=by omega
  have agq:dT.reverse[out.n]=dT[dT.length-1-out.n]:=by rw[List.getElem_reverse]
  have hm:=vS _ (bJ VE);obtain⟨m,vU⟩:=en hm.1;rw[vU]at hm;have gz:m<t.n:=by omega
  have jK:m<t.aa.length:=by omega
  have yw:((dT.length:Int)-1-(out.n:Int))=((dT.length-1-out.n:Nat):Int):=by omega
  have VF:∀ {M:List aD},(∀ x∈back.aw 3,x∈M)->∃ ad,(back.a.map λg=>(⟨g,0,none⟩:Addr))=some ad/\bq J M (ad.add ((dT.length-1-out.n)*1)) 1 [.int .i64 m]:=λaV=>by obtain⟨ad,U,ab⟩:=aY.FR (I:=J) (e:=3) qR aV VE;rw[vU]at ab;exact⟨ad,U,ab⟩
  obtain⟨tZ,rT,ji⟩:=(aq.aJ.mono bg).row aH.bI gz jK;have al:=(aq.aa _ (bJ jK)).mono bg;have eR:=al.aZ;have qT:=al.aJ.cap;have fC:=h1 ag m jK;have qU:nodeAt t.aa m=t.aa[m]:=jO jK;generalize eY:t.aa[m]=d at al eR qT fC ji qU;obtain⟨ad,ba,JC⟩:=VF (M:=eC bT P::(out.aw 61++back.aw 3)) (λx ae=>by simp[ae]);refine cr.draw aI rfl rfl rfl ?_;refine aW.mk ad (dT.length-1-out.n) ba yw (show _<back.n by omega) ?_;refine aE.mk _ JC ?_;refine aW.mk tZ m rT rfl gz ?_;refine aE.mk _ (ji _) ?_;refine bL.mk λo4 aqN aqO=>?_;refine cu.mk [] _ _ _ rfl rfl (b9 rfl) rfl ?_;obtain⟨vV,o5,agr⟩:=VF (M:=⟨o4,.cells d.cells.toArray 61 (0,0)⟩::eC bT P::(out.aw 61++back.aw 3)) (λx ae=>by simp[ae]);refine aW.mk vV (dT.length-1-out.n) o5 yw (show _<back.n by omega) ?_;refine aE.mk _ agr ?_;refine aW.mk ⟨bT,0,none⟩ m rfl rfl gz ?_;refine cu.add [⟨o4,.cells d.cells.toArray 61 (0,0)⟩] (out.aw 61++back.aw 3) _ _ rfl ?_ rfl ?_;·simp only[jZ,cT];show 0+m*1+1<=_;omega
  have fN:=AF P m (by omega) (out.n:Int);generalize s3:P.set m (out.n:Int)=dQ at fN;have JD:dQ.length=t.aa.length:=by rw[<-s3];simpa using Dg
  have A':∀ c∈dQ,0<=c/\c<=dT.length:=λc aC=>by
   rw[<-s3]at aC;rcases FT aC with aC | rfl;·exact Dj c aC
   ·omega
  have NV:∀ {M:List aD} {cs:List Value} (k n:Nat),(⟨o4,.cells cs.toArray 61 (0,0)⟩:aD)∈M->k+n<=cs.length->bq J M ((⟨o4,0,none⟩:Addr).add k) n ((cs.drop k).take n):=λk n aV ay=>dj aV ay;refine bu.inv (ι:=Nat×aY×List Int) (λy=>{ a4:=[(2,.ref 2 0),(4,.ref 4 0),(6,.val back.val),(9,.val (.slice (some ⟨bT,0,none⟩) t.n t.n)),(10,.val out.val),(11,.val (.int .i64 ((dT.length:Int)-1-out.n))),(12,.val (ptr o4)),(13,.val y.2.1.val),(14,.val (.int .i64 y.1))],cl:=[(2,t.cells),(4,[.slice none 0 0,.int .i64 0])],br:=J,bO:=y.2.1.aw 3++(⟨o4,.cells d.cells.toArray 61 (0,0)⟩::eC bT dQ::(out.aw 61++back.aw 3)) }) (λy=>y.1<=d.aZ/\y.2.1.ok 1 (y.2.2.map (.int .i64 ·))/\y.2.2=(d.kids.take y.1).map λk=>dQ.getD k.toNat 0) (λy=>d.aZ-y.1) ?_ ?_;·refine⟨(0,fs,[]),⟨bQ _,fT 1,by simp⟩,?_,lE,.cons rfl (.cons rfl .nil)⟩;simp only[eC];rw[<-fN];simp only[cM,fh];exact .refl
  rintro⟨k,eE,eN⟩⟨af,kq,bj⟩;simp only at af kq bj;have aqP:=kq.o1;have e2:(⟨o4,.cells d.cells.toArray 61 (0,0)⟩:aD)∈eE.aw 3++(⟨o4,.cells d.cells.toArray 61 (0,0)⟩::eC bT dQ::(out.aw 61++back.aw 3)):=by simp
  have Ga:eC bT dQ∈eE.aw 3++(⟨o4,.cells d.cells.toArray 61 (0,0)⟩::eC bT dQ::(out.aw 61++back.aw 3)):=by simp
  have fY:eN.length<=d.aZ:=by rw[bj,cT];exact k5 (rD _ _) af
  have aqQ:eN.length<=k:=by rw[bj,cT];exact rD _ _
  refine aE.mk [.slice d.eA d.aZ d.ej] (NV 8 1 e2 (by rw[aH.bI];decide)) ?_;refine aB.mk (λab=>?_) (λab=>?_)
  ·have e6:k<d.aZ:=by have:(k:Int)<(d.aZ:Int):=cq ab;omega
   have iS:k<d.kids.length:=by omega
   obtain⟨eU,eO,eB⟩:=al.aJ.one e6 iS;have ai:=fC _ (bJ iS);have y9:d.kids[k].toNat<dQ.length:=by omega
   have Gb:dQ.getD d.kids[k].toNat 0=dQ[d.kids[k].toNat]:=by simp[bV,y9]
   refine aE.mk [.slice d.eA d.aZ d.ej] (NV 8 1 e2 (by rw[aH.bI];decide)) ?_;refine aW.mk eU k eO rfl e6 ?_;refine aE.mk _ (eB _) ?_;refine aW.mk ⟨bT,0,none⟩ d.kids[k].toNat rfl (by omega) (by omega) ?_;refine aE.mk _ (CM Ga y9) ?_;refine bL.mk λVG aqR aqS=>?_;refine bk.append aI rfl (by simp) (e:=3) rfl rfl rfl eE kq rfl (m:=1) rfl (news:=[.int .i64 dQ[d.kids[k].toNat]]) (by decide) (dj (b:=VG) (cs:=[.int .i64 dQ[d.kids[k].toNat]]) (k:=0) (n:=1) (T:=3) (.head _) (by simp)) rfl (Mr:=⟨VG,.cells #[.int .i64 dQ[d.kids[k].toNat]] 3 (0,0)⟩::(⟨o4,.cells d.cells.toArray 61 (0,0)⟩::eC bT dQ::(out.aw 61++back.aw 3))) o3.symm (by simp only[maxLen];omega) (by show(eE.n+1)*8<=_;omega) ?_;intro bb dg s0 ha gf h6 oh;refine aQ.mk _ (bl (i:=k) (by omega)) ?_;refine⟨(k+1,⟨some bb,eE.n+1,dg,s0⟩,eN++[dQ[d.kids[k].toNat]]),⟨⟨by simp only;omega,?_,?_⟩,by simp only;omega⟩,.sub (.cons_cons _ (.cons _ (.refl _))) .refl,lE,.cons rfl (.cons rfl .nil)⟩;·simp only;rw[eL];exact xv kq ha gf h6 oh
   ·simp only;rw[er iS,eL,<-bj,cZ,jj,Gb]
  have bS:d.aZ<=k:=by have:¬ (k:Int)<(d.aZ:Int):=cR ab;omega
  rw[dX (by omega)]at bj;have bW:∃ bE:aH,bE=⟨d.k,d.cF,d.s1,d.s2,d.dt,d.t,d.lo,d.hi,eE.a.map λg=>⟨g,0,none⟩,eE.n,eE.c,eN⟩:=⟨_,rfl⟩;obtain⟨bE,bW⟩:=bW;have Gc:bG d.cells (0+8) [eE.val]=bE.cells:=by rw[bW];rfl
  refine cu.kN (eE.aw 3) (eC bT dQ::(out.aw 61++back.aw 3)) d.cells _ rfl rfl rfl bE.cells Gc ?_;have ags:(⟨o4,.cells bE.cells.toArray 61 (0,0)⟩:aD)∈eE.aw 3++(⟨o4,.cells bE.cells.toArray 61 (0,0)⟩::eC bT dQ::(out.aw 61++back.aw 3)):=by simp
  refine aE.mk bE.cells (NV 0 9 ags (by rw[aH.bI];decide)) ?_;refine bL.mk λBa VH VI=>?_;have agt:(⟨Ba,.cells bE.cells.toArray 61 (0,0)⟩::(eE.aw 3++(⟨o4,.cells bE.cells.toArray 61 (0,0)⟩::eC bT dQ::(out.aw 61++back.aw 3)))).Perm (out.aw 61++(⟨Ba,.cells bE.cells.toArray 61 (0,0)⟩::(eE.aw 3++(⟨o4,.cells bE.cells.toArray 61 (0,0)⟩::eC bT dQ::back.aw 3)))):=by simpa using A4 (⟨Ba,.cells bE.cells.toArray 61 (0,0)⟩::(eE.aw 3++[⟨o4,.cells bE.cells.toArray 61 (0,0)⟩,eC bT dQ])) (out.aw 61) (back.aw 3)
  refine bk.append aI rfl (by simp) (e:=61) rfl rfl rfl out uh rfl (m:=1) rfl (news:=bE.cells) (by decide) (dj (b:=Ba) (cs:=bE.cells) (k:=0) (n:=9) (T:=61) (.head _) (by rw[aH.bI];decide)) rfl (Mr:=⟨Ba,.cells bE.cells.toArray 61 (0,0)⟩::(eE.aw 3++(⟨o4,.cells bE.cells.toArray 61 (0,0)⟩::eC bT dQ::back.aw 3))) ?_ (by simp only[maxLen];omega) (by show(out.n+1)*96<=_;omega) ?_;·exact agt
  intro b0 gB JE r0 o6 Gd Ge;refine aQ.mk ((dT.length:Int)-1-(out.n+1:Nat)) (ku (by omega) (by omega)) ?_;have y':∀ c∈eN,0<=c/\c<=dT.length:=λc aC=>by
   rw[bj]at aC;obtain⟨q,a0,rfl⟩:=dB.1 aC;have xE:=fC q a0;have Gf:q.toNat<dQ.length:=by omega
   exact A' (dQ.getD q.toNat 0) (by simp only[bV,ev Gf,je];exact bJ _)
  intro gO;obtain⟨xI,hw,hle,ig⟩:=aY.C3 (I:=J) (b:=8) (e:=3) kq (by omega) (λg ao=>gO.d ⟨g,.cells eE.cur.toArray 3 (0,0)⟩ (by simp[aY.aw,ao])) (eC bT dQ::([⟨b0,.cells JE.toArray 61 (0,0)⟩]++back.aw 3));refine⟨(out.n+1,dQ,⟨some b0,out.n+1,gB,JE⟩,m7++[bE],xI),⟨⟨by simp only;omega,JD,?_,by simp[hV],?_,?_,λb o h=>hle _ _ (bg _ _ h),?_,?_⟩,by simp only;omega⟩,?_,jD,.cons rfl (.cons rfl .nil)⟩
  ·simp only;rw[jF];have:([bE].flatMap aH.cells)=bE.cells:=by simp
   rw[this];exact NQ uh (aH.bI _) r0 o6 Gd Ge
  ·simp only;rw[er Dk,xp,vT,qm,Jy,agq,vU];show(P.set m ((m7.map aH.a1).length:Int),m7.map aH.a1++[(nodeAt t.aa m).m6 ((nodeAt t.aa m).kids.map λk=>(P.set m ((m7.map aH.a1).length:Int)).getD k.toNat 0)])=_;rw[cT,hV,s3,qU,<-bj,eL,bW];rfl
  ·simp only;intro x ae;rcases dm.1 ae with ae | ae
   ·exact(y8 x ae).mono hle
   ·simp only[fb]at ae;rw[ae,bW];refine⟨al.k,al.cF,al.s1,al.s2,al.dt,al.t,al.lo,al.hi,ig,λc aC=>?_⟩;have:=y' c aC;exact⟨by omega,by omega⟩
  ·simp only[FU];exact A'
  ·simp only[FU];intro x ae;rcases dm.1 ae with ae | ae
   ·exact gW x ae
   ·simp only[fb]at ae;rw[ae,bW];exact y'
  ·simp only;refine .sub (M1:=⟨b0,.cells JE.toArray 61 (0,0)⟩::(eE.aw 3++(eC bT dQ::back.aw 3))) (.cons_cons _ (.cons _ (Dc (.refl _) (.cons _ (.refl _))))) ?_;refine .perm (M1:=eE.aw 3++(eC bT dQ::([(⟨b0,.cells JE.toArray 61 (0,0)⟩:aD)]++back.aw 3))) ?_ hw;exact o3.symm.trans (List.Perm.append_left _ (List.Perm.swap _ _ _))
 have bS:out.n=dT.length:=by have:¬ (0:Int)<=(dT.length:Int)-1-(out.n:Int):=cR h;omega
 refine aQ.mk ((m7.length:Int)-1) (ku (by simp only[aY.val];omega) (by omega)) ?_;intro gO;obtain⟨xI,hw,hle,ig⟩:=aY.C3 (I:=J) (b:=96) (e:=61) uh (by omega) (λg ao=>gO.d ⟨g,.cells out.cur.toArray 61 (0,0)⟩ (by simp[aY.aw,ao])) [];refine⟨xI,[],.sub (M1:=out.aw 61++[]) (by rw[db];exact .cons _ (CQ _ _)) hw,λb o h=>hle _ _ (bg _ _ h),rfl,⟨m7,out.a.map λg=>⟨g,0,none⟩,out.n,out.c,(m7.length:Int)-1⟩,rfl,⟨ig,λd al=>(y8 d al).mono hle,⟨by simp only;omega,by simp only;omega⟩⟩,?_,rfl,by simp only;omega,λd al k af=>by have:=gW d al k af;omega⟩;rw[dX (by rw[FU];omega)]at vT;rw[mz,pN,vT]
structure aM where
 z:Bool
 s:Bool
 f:Bool
 deriving DecidableEq
def aM.cells(x:aM):List Value:=[.bool x.z,.bool x.s,.bool x.f]
def aM.val(x:aM):Value:=.agg #[.bool x.z,.bool x.s,.bool x.f]
def aM.bI(x:aM):x.cells.length=3:=rfl
def aM.lj(x:aM):Bool:=x.z||x.s
def agu(x y:aM)(p q:Operand)(w:World):(do eqGuard .neq 146 p q x.val y.val;binOp .neq 146 x.val y.val:Sem Value).run Tryz.prog w=.ok (.bool (!decide (x=y))) w:=by
 obtain⟨a,b,c⟩:=x;obtain⟨d,e,f⟩:=y;cases a<;>cases b<;>cases c<;>cases d<;>cases e<;>cases f<;>kernel_rfl
def cx.VJ{p q:aM}{V:Value->Prop}(h:V (.bool (!decide (p=q)))):cx Tryz.prog .neq 146 x y (.val (.agg #[.bool p.z,.bool p.s,.bool p.f])) (.val (.agg #[.bool q.z,.bool q.s,.bool q.f])) V other:=
 .mk _ _ _ rfl rfl (λw=>agu p q x y w) h
def Bb{s:Bool}{x:aM}(U:z=x.z)(ab:s=x.s)(ak:f=x.f):Value.agg #[.bool z,.bool s,.bool f]=x.val:=by subst U ab ak;rfl
def VK{s:Bool}{x:aM}(U:z=x.z)(ab:s=x.s)(ak:f=x.f):[Value.bool z,Value.bool s,Value.bool f]=x.cells:=by subst U ab ak;rfl
def NW{a b:Bool}(h:a=b):ym (.val (.bool a)) (.val (.bool b)):=by subst h;exact .refl
def Dl{a b:Bool}(h:a=b):ym (.lit a) (.val (.bool b)):=by subst h;exact .lit
def perm_nil:M.Perm (M++[]):=by simp
def cx.NX{P:Program}(aR:cX P E){t:Nat}(aq:E t=some dr)(eo:dr.bH=.array 4 e)(he:E e=some aO){k:IntKind}(jI:aO.bH=.int k)(ao:P.eqGuardType P.depth t=false){V:Value->Prop}
  (h:V (.bool (!(dE == dO&&(ca == b1&&(dC == cc&&dz == gR)))))):cx P .neq t x y (.val (.agg #[.int k dE,.int k ca,.int k dC,.int k dz])) (.val (.agg #[.int k dO,.int k b1,.int k cc,.int k gR])) V other:=by
 obtain⟨d,fp,eY⟩:=(aR _ _ aq).fl;obtain⟨nu,Ay,Fm⟩:=(aR _ _ he).fl;obtain⟨inf,z,hi,e3,_⟩:=(aR _ _ he).inf;have U:d=.array 4 e:=by rw[eo]at eY;cases d<;>simp_all[fe]
 have ab:nu=.int k:=by rw[jI]at Fm;cases nu<;>simp_all[fe]
 subst U;subst ab;have eu:inf.size=1:=by rw[e3];exact(aR _ _ he).EJ (by rw[jI];rfl)
 refine .mk _ _ _ rfl rfl (λw=>?_) h;simp only[b8,run_eqGuard_agg (hm:=ao),bU,binOp,Ts fp Ay hi eu,c3]
def NY(x:aM):Spec Tryz.prog 163 [x.val] I M λv I' M'=>v=.bool x.lj/\I'=I/\M'=M:=by
 obtain⟨a,b,c⟩:=x;refine bn [] aI Tryz.func163 rfl rfl rfl ?_;intro B av;refine a9.mk (λh=>?_) (λh=>?_)
 ·exact⟨_,_,.refl,by rw[show a=false from h];rfl,rfl,rfl⟩
 ·exact⟨_,_,.refl,by rw[show a=true from h];rfl,rfl,rfl⟩
structure hW(I:aT)(M:List aD)(a:Option Addr)(n:Nat)(ks:List aM):Prop where
 n:ks.length=n
 rd:∀ j (h:j<ks.length),∃ ad,a=some ad/\bq I M (ad.add (j*3)) 3 ks[j].cells
def kv(b4:aM×Bool)(k:aM):aM×Bool:=(⟨b4.1.z&&k.z,b4.1.s||k.s,b4.1.f||(b4.2&&k.f)⟩,b4.2&&k.lj)
def qV(ks:List aM):aM×Bool:=ks.foldl kv (⟨true,false,false⟩,true)
def Bc(ks:List aM):aM:=⟨(qV ks).1.z,(qV ks).1.s&&(qV ks).2,(qV ks).1.f⟩
def om(f k:aM):aM:=⟨f.z||(f.f&&k.z),f.s||(f.f&&k.s),f.f&&k.f⟩
def Dm(ks:List aM):aM:=ks.foldl om ⟨false,false,true⟩
def bw:aM:=⟨false,false,false⟩
def r1(d:aH)(k:aM):aM:=bif decide (d.hi=0)then⟨true,false,false⟩else⟨k.z||(decide (d.lo=0)&&k.f),k.s,decide (0<d.lo)&&k.f⟩
def fE(d:aH)(ks:List aM):aM:=
 bif decide (d.k=0)then⟨true,false,false⟩else
 bif decide (d.k=1)then⟨false,!d.oS,true⟩else
 bif decide (d.k=2)then⟨false,true,true⟩else
 bif decide (d.k=3)then ks.headD bw else
 bif decide (d.k=4)then Bc ks else
 bif decide (d.k=5)then Dm ks else
 bif decide (d.k=6)then r1 d (ks.headD bw)else
 bif decide (d.k=7)then⟨(ks.headD bw).lj,false,(ks.headD bw).f⟩else
 bif decide (d.k=8)then⟨(ks.headD bw).f,false,(ks.headD bw).lj⟩else ks.headD bw
section
variable{I:aT}{M:List aD}{d:aH}{a:Option Addr}{n c:Nat}{ks:List aM}
def hW.head(af:hW I M a n ks)(av:0<n):∃ ad,a=some ad/\bq I M (ad.add (0*3)) 3 (ks.headD bw).cells:=by
 have U:0<ks.length:=by rw[af.n];exact av
 obtain⟨ad,ab,ak⟩:=af.rd 0 U;refine⟨ad,ab,?_⟩;cases ks with
 |nil=>simp at U| cons k ks=>exact ak
def agv:Spec Tryz.prog 140 [d.val,.slice a n c] I M λv I' M'=>v=aM.val ⟨true,false,false⟩/\I'=I/\M'=M:=by refine bn [] aI Tryz.func140 rfl rfl rfl ?_;intro B av;exact⟨_,_,.refl,rfl,rfl,rfl⟩
def agw:Spec Tryz.prog 142 [d.val,.slice a n c] I M λv I' M'=>v=aM.val ⟨false,true,true⟩/\I'=I/\M'=M:=by refine bn [] aI Tryz.func142 rfl rfl rfl ?_;intro B av;exact⟨_,_,.refl,rfl,rfl,rfl⟩
def VL(af:hW I M a n ks)(av:0<n):Spec Tryz.prog 143 [d.val,.slice a n c] I M λv I' M'=>v=(ks.headD bw).val/\I'=I/\M'=M:=by refine bn [] aI Tryz.func143 rfl rfl rfl ?_;intro B j7;obtain⟨ad,ba,a3⟩:=af.head av;refine aW.mk ad 0 ba rfl av ?_;refine aE.mk _ a3 ?_;exact⟨_,_,.refl,rfl,rfl,rfl⟩
def agx(af:hW I M a n ks)(av:0<n):Spec Tryz.prog 147 [d.val,.slice a n c] I M λv I' M'=>v=aM.val ⟨(ks.headD bw).lj,false,(ks.headD bw).f⟩/\I'=I/\M'=M:=by refine bn [] aI Tryz.func147 rfl rfl rfl ?_;intro B j7;obtain⟨ad,ba,a3⟩:=af.head av;refine cr.draw aI rfl rfl rfl ?_;refine aW.mk ad 0 ba rfl av ?_;refine aE.mk _ a3 ?_;refine aW.mk ad 0 ba rfl av ?_;refine aE.mk _ (a3.part (k:=2) (m:=1) (by decide)) ?_;refine e7.mT M [] _ perm_nil (NY (ks.headD bw)) (λv I' M' h x ae=>by rw[h.2.2];exact ae) ?_;rintro v I' M' -⟨rfl,rfl,rfl⟩;rw[db];exact⟨_,_,.refl,rfl,rfl,rfl⟩
def agy(af:hW I M a n ks)(av:0<n):Spec Tryz.prog 148 [d.val,.slice a n c] I M λv I' M'=>v=aM.val ⟨(ks.headD bw).f,false,(ks.headD bw).lj⟩/\I'=I/\M'=M:=by refine bn [] aI Tryz.func148 rfl rfl rfl ?_;intro B j7;obtain⟨ad,ba,a3⟩:=af.head av;refine cr.draw aI rfl rfl rfl ?_;refine aW.mk ad 0 ba rfl av ?_;refine aE.mk _ (a3.part (k:=2) (m:=1) (by decide)) ?_;refine aW.mk ad 0 ba rfl av ?_;refine aE.mk _ a3 ?_;refine e7.mT M [] _ perm_nil (NY (ks.headD bw)) (λv I' M' h x ae=>by rw[h.2.2];exact ae) ?_;rintro v I' M' -⟨rfl,rfl,rfl⟩;rw[db];exact⟨_,_,.refl,rfl,rfl,rfl⟩
def agz:Spec Tryz.prog 141 [d.val,.slice a n c] I M λv I' M'=>v=aM.val ⟨false,!d.oS,true⟩/\I'=I/\M'=M:=by refine bn [] aI Tryz.func141 rfl rfl rfl ?_;intro B av;refine cx.NX aI (e:=57) rfl rfl rfl rfl (by kernel_rfl) ?_;exact⟨_,_,.refl,rfl,rfl,rfl⟩
def agA(af:hW I M a n ks)(av:0<n):Spec Tryz.prog 146 [d.val,.slice a n c] I M λv I' M'=>v=(r1 d (ks.headD bw)).val/\I'=I/\M'=M:=by
 refine bn [] aI Tryz.func146 rfl rfl rfl ?_;intro B j7;obtain⟨ad,ba,a3⟩:=af.head av;generalize ks.headD bw=k at a3;obtain⟨s4,s5,qW⟩:=k;refine aB.mk (λh=>?_) (λh=>?_)
 ·refine⟨_,_,.refl,Bb ?_ ?_ ?_,rfl,rfl⟩<;>simp[r1,h]
 refine aW.mk ad 0 ba rfl av ?_;refine aE.mk _ a3 ?_
 repeat' refine a9.mk (λh=>?_) (λh=>?_)
 all_goals refine⟨_,_,.refl,Bb ?_ ?_ ?_,rfl,rfl⟩
 all_goals first | (simp_all[r1];done) | (simp_all[r1];intros;omega)
def agB(af:hW I M a n ks)(az:n<=140737488355328):Spec Tryz.prog 145 [d.val,.slice a n c] I M λv I' M'=>v=(Dm ks).val/\I'=I/\M'=M:=by
 refine bn [] aI Tryz.func145 rfl rfl rfl ?_;intro B j7;have eR:=af.n;refine bu.inv (ι:=Nat×aM) (λx=>{ a4:=[(4,.ref 4 0),(5,.ref 5 0),(9,.val (.slice a n c)),(10,.val (.int .i64 n)),(11,.val (.int .i64 x.1))],cl:=[(4,bw.cells),(5,x.2.cells)],br:=I,bO:=M }) (λx=>x.1<=n/\x.2=(ks.take x.1).foldl om ⟨false,false,true⟩) (λx=>n-x.1) ?_ ?_
 ·exact⟨(0,⟨false,false,true⟩),⟨bQ _,rfl⟩,.refl,ec,.cons rfl (.cons rfl .nil)⟩
 rintro⟨i,f⟩⟨hi,au⟩;simp only at hi au;refine aB.mk (λh=>?_) (λh=>?_)
 rotate_left
 ·have bS:n<=i:=by have:=cR h;omega
  refine⟨_,_,.refl,?_,rfl,rfl⟩;rw[dX (by omega)]at au;rw[Dm,<-au];rfl
 have ax:i<n:=by have:=cq h;omega
 obtain⟨ad,ba,a3⟩:=af.rd i (by omega);have dc:∀ g:aM,g=om f (ks[i]'(by omega))->g=(ks.take (i+1)).foldl om ⟨false,false,true⟩:=λg ao=>by rw[er (by omega),xp,<-au,ao];rfl
 generalize ks[i]'(by omega)=k at a3 dc;obtain⟨s4,s5,qW⟩:=k;obtain⟨z,s,NZ⟩:=f;refine aW.mk ad i ba rfl ax ?_;refine aE.mk _ a3 ?_
 repeat' refine a9.mk (λh=>?_) (λh=>?_)
 all_goals refine aQ.mk _ (bl (i:=i) (by omega)) ?_
 all_goals refine⟨(i+1,_),⟨⟨by simp only;omega,dc _ rfl⟩,by simp only;omega⟩,.refl,ec,.cons rfl (.cons ?_ .nil)⟩
 all_goals clear dc au a3
 all_goals (refine congrArg some (VK ?_ ?_ ?_)<;>simp_all[om])
def VM(l:List aM)(k:aM):qV (l++[k])=kv (qV l) k:=by simp[qV]
def agC(af:hW I M a n ks)(az:n<=140737488355328):Spec Tryz.prog 144 [d.val,.slice a n c] I M λv I' M'=>v=(Bc ks).val/\I'=I/\M'=M:=by
 refine bn [] aI Tryz.func144 rfl rfl rfl ?_;intro B j7;have eR:=af.n;refine bu.inv (ι:=Nat×aM×Bool) (λx=>{ a4:=[(4,.ref 4 0),(5,.ref 5 0),(6,.val (.bool x.2.2)),(10,.val (.slice a n c)),(11,.val (.int .i64 n)),(12,.val (.int .i64 x.1))],cl:=[(4,bw.cells),(5,x.2.1.cells)],br:=I,bO:=M }) (λx=>x.1<=n/\x.2=qV (ks.take x.1)) (λx=>n-x.1) ?_ ?_
 ·exact⟨(0,⟨true,false,false⟩,true),⟨bQ _,rfl⟩,.refl,.cons .refl (.cons .refl (.cons .lit (cU))),.cons rfl (.cons rfl .nil)⟩
 rintro⟨i,f,VN⟩⟨hi,au⟩;simp only at hi au;refine aB.mk (λh=>?_) (λh=>?_)
 rotate_left
 ·have bS:n<=i:=by have:=cR h;omega
  rw[dX (by omega)]at au;obtain⟨z,s,NZ⟩:=f;have aF:(qV ks).1=⟨z,s,NZ⟩:=by rw[<-au]
  have a7:(qV ks).2=VN:=by rw[<-au]
  refine a9.mk (λab=>?_) (λab=>?_)
  all_goals refine⟨_,_,.refl,Bb ?_ ?_ ?_,rfl,rfl⟩
  all_goals simp_all[Bc]
 have ax:i<n:=by have:=cq h;omega
 obtain⟨ad,ba,a3⟩:=af.rd i (by omega);have dc:∀ g:aM×Bool,g=kv (f,VN) (ks[i]'(by omega))->g=qV (ks.take (i+1)):=λg ao=>by rw[er (by omega),VM,<-au,ao]
 generalize ks[i]'(by omega)=k at a3 dc;obtain⟨s4,s5,qW⟩:=k;obtain⟨z,s,NZ⟩:=f;refine aW.mk ad i ba rfl ax ?_;refine aE.mk _ a3 ?_
 repeat' first
  |refine a9.mk (λh=>?_) (λh=>?_)|(refine aU.mk M [] _ perm_nil (NY ⟨s4,s5,qW⟩) ?_;rintro v I' M' -⟨rfl,rfl,rfl⟩;rw[db])
 all_goals refine aQ.mk _ (bl (i:=i) (by omega)) ?_
 all_goals refine⟨(i+1,_),⟨⟨by simp only;omega,dc _ rfl⟩,by simp only;omega⟩,.refl,.cons .refl (.cons .refl (.cons ?_ (cU))),.cons rfl (.cons ?_ .nil)⟩
 all_goals clear dc au a3
 all_goals first
  |(refine congrArg some (VK ?_ ?_ ?_)<;>simp_all[kv])|(refine NW ?_;simp_all[kv])|(refine Dl ?_;simp_all[kv])
end
structure Fit(t:bx)(W:Nat):Prop where
 w:∀ d∈t.aa,d.aZ<=W
 b:t.n*W<=1152921504606846976
 n:t.n<=1099511627776
def bq.mono{a:Addr}{n:Nat}(h:bq I M a n vs)(cg:∀ b o,I b=some o->I' b=some o):bq I' M a n vs:=by obtain⟨U,cs,T,an,ab,ak⟩:=h;exact⟨U,cs,T,an,ab.imp (cg _ _) id,ak⟩
def bq.sub{I:aT}{M M':List aD}{a:Addr}{n:Nat}{vs:List Value}(h:bq I M a n vs)(aV:∀ x∈M,x∈M'):bq I M' a n vs:=by obtain⟨U,cs,T,an,ab,ak⟩:=h;refine⟨U,cs,T,an,ab.imp id ?_,ak⟩;rintro⟨x,ae,aF,a7⟩;exact⟨x,aV x ae,aF,a7⟩
def VO(b4:List aH×List Int)(l:List aH):List aH×List Int:=
 (b4.1++l.map (λx=>x.m6 (x.kids.map λk=>(b4.1.length:Int)+k)),b4.2++[((b4.1.length+l.length:Nat):Int)-1])
def agD(d:aH)(JF:List (List aH)):List aH:=(JF.foldl VO ([],[])).1++[d.m6 (JF.foldl VO ([],[])).2]
section
variable{X:cO}{β:Nat->Nat}{a:Act}{w:World}{F:Fr}{C:c8}{I:aT}{M:List aD}{o:Oper}{Q:Exit->Act->World->Prop}{K:fZ}
def VP(aR:cX X.P X.E){t:Nat}{k:Nat}(aq:X.E t=some dr)(eo:dr.bH=.map k e)(af:X.E k=some sT)(hT:sT.bH=.string)(a2:∀ w,(zeroValue e).run X.P w=.ok (.int .i64 0) w){g:Nat}{l:List (ByteArray×Int)}{s:ByteArray}(ao:w.heap[g]?=some (i' l))(ok:Bool) :
  (Instr.lookup t (.map (some g)) (.string s) ok).run X.P w=.ok (bif ok then .tuple #[.int .i64 ((dP s l).getD 0),.bool (dP s l).isSome]else .int .i64 ((dP s l).getD 0)) w:=by
 obtain⟨d,fp,eY⟩:=(aR _ _ aq).fl;have U:d=.map k e:=by rw[eo]at eY;cases d<;>simp_all[fe]
 subst U;obtain⟨rU,rV,fz⟩:=(aR _ _ af).fl;have ab:rU=.string:=by rw[hT]at fz;cases rU<;>simp_all[fe]
 subst ab;have ao:w.heap[g]?=some (.map (oe l 0).toArray l.length):=ao;obtain⟨r,tz,lf⟩:=Je s l 0 0;have aC:(Instr.checkKey (oe l 0).toArray.isEmpty 10000 k (.string s)).run X.P w=.ok () w:=CT (k:=.string s) rV (by simp[MapKept.IsKey]) _ 9999;have t':(Instr.findKey k (.string s) (oe l 0)).run X.P w=.ok r w:=CU rV tz;unfold Instr.lookup;simp only[b8,run_underlying fp,bU,CR ao,c3,aC,t'];cases r with
 |none=>
  cases ay:dP s l with
  |none=>cases ok<;>simp[a2]
  |some v=>rw[ay]at lf;simp at lf
 |some p=>
  cases ay:dP s l with
  |none=>rw[ay]at lf;simp at lf
  |some v=>
   rw[ay]at lf;simp only[mK,jY]at lf;cases ok<;>simp[lf]
def bk.VQ(aR:cX X.P X.E){t:Nat}(aP:o.op=.lookup t x y true)(al:∀ d,o.dst=some d->d<X.n){k:Nat}(aq:X.E t=some dr)(eo:dr.bH=.map k e)(af:X.E k=some sT)(hT:sT.bH=.string)(a2:∀ w,(zeroValue e).run X.P w=.ok (.int .i64 0) w){g:Nat}{l:List (ByteArray×Int)}{s:ByteArray}(ae:bY F x=.val (.map (some g)))(aA:bY F y=.val (.string s))(aV:h' I M g (i' l))
  (h:K (put o.dst (.val (.tuple #[.int .i64 ((dP s l).getD 0),.bool (dP s l).isSome])) F) C I M):bk X o F C I M K:=by
 refine⟨λa w Q ⟨β,a5⟩=>?_⟩;have fm:=VP aR aq eo af hT a2 (aV.heap a5.holds) (s:=s) true;have ex:=dx a5.an ae;have mX:=dx a5.an aA;refine va a5 al (by rw[aP];simp) ?_ h;unfold execOp;simp only[aP,ex,mX,b8,fm,bU,c3,bt]
def bk.agE(aR:cX X.P X.E){t:Nat}(aP:o.op=.lookup t x y false)(al:∀ d,o.dst=some d->d<X.n){k:Nat}(aq:X.E t=some dr)(eo:dr.bH=.map k e)(af:X.E k=some sT)(hT:sT.bH=.string)(a2:∀ w,(zeroValue e).run X.P w=.ok (.int .i64 0) w){g:Nat}{l:List (ByteArray×Int)}{s:ByteArray}(ae:bY F x=.val (.map (some g)))(aA:bY F y=.val (.string s))(aV:h' I M g (i' l))
  (h:K (put o.dst (.val (.int .i64 ((dP s l).getD 0))) F) C I M):bk X o F C I M K:=by
 refine⟨λa w Q ⟨β,a5⟩=>?_⟩;have fm:=VP aR aq eo af hT a2 (aV.heap a5.holds) (s:=s) false;have ex:=dx a5.an ae;have mX:=dx a5.an aA;refine va a5 al (by rw[aP];simp) ?_ h;unfold execOp;simp only[aP,ex,mX,b8,fm,bU,c3,bz]
end
def qX:List (ByteArray×Int)->Nat->List aK->List (ByteArray×Int)
 |acc,_,[]=>acc| acc,i,d::ds=>qX (bif (dP d.name acc).isSome then acc else acc++[(d.name,(i:Int))]) (i+1) ds
def a'(ds:List aK):List (ByteArray×Int):=qX [] 0 ds
def VR(ao:g.ok I):Spec Tryz.prog 97 [g.val] I [] λv I' M'=>(∀ b o,I b=some o->I' b=some o)/\M'=[]/\∃ hH,v=.map (some hH)/\I' hH=some (i' (a' g.ds)):=by
 refine Is [] aI Tryz.func97 rfl rfl rfl ?_;intro B av;have cK:=ao.n;have gk:=ao.aJ.cap;refine bk.makeMap aI rfl (by simp) rfl rfl rfl λjl=>?_;refine bu.inv (ι:=Nat×List (ByteArray×Int)) (λx=>{ a4:=[(1,.ref 1 0),(3,.val (.map (some jl))),(13,.val (.slice g.a g.n g.c)),(14,.val (.int .i64 g.n)),(15,.val (.int .i64 x.1))],cl:=[(1,[.slice g.a g.n g.c])],br:=I,bO:=[⟨jl,i' x.2⟩] }) (λx=>x.1<=g.n/\a' g.ds=qX x.2 x.1 (g.ds.drop x.1)) (λx=>g.n-x.1) ?_ ?_
 ·exact⟨(0,[]),⟨bQ _,rfl⟩,.refl,ec,.cons rfl .nil⟩
 rintro⟨i,acc⟩⟨hi,aN⟩;simp only at hi aN;refine aB.mk (λh=>?_) (λh=>?_)
 ·have ax:i<g.n:=by have:(i:Int)<(g.n:Int):=cq h;omega
  have bo:i<g.ds.length:=by omega
  obtain⟨ad,ba,a3⟩:=ao.aJ.row aK.bI ax bo;rw[dv bo,qX]at aN;refine aW.mk ad i ba rfl ax ?_;refine aE.mk _ (a3 _) ?_;refine bk.VQ aI rfl (by simp) rfl rfl rfl rfl (λw=>FK w) (l:=acc) (g:=jl) rfl rfl (.inr ⟨_,.head _,rfl,rfl⟩) ?_;refine aB.mk (λak=>?_) (λak=>?_)
  ·have az:(dP g.ds[i].name acc).isSome=false:=by simpa using ak
   have ay:dP g.ds[i].name acc=none:=by simpa using az
   rw[az,bz]at aN;refine bk.UC aI rfl rfl rfl rfl rfl rfl rfl rfl rfl ay (Mr:=[]) (.refl _) ?_;refine aQ.mk _ (bl (i:=i) (by omega)) ?_;exact⟨(i+1,_),⟨⟨by simp only;omega,aN⟩,by simp only;omega⟩,.refl,ec,.cons rfl .nil⟩
  ·have az:(dP g.ds[i].name acc).isSome=true:=by simpa using ak
   rw[az,bt]at aN;refine aQ.mk _ (bl (i:=i) (by omega)) ?_;exact⟨(i+1,_),⟨⟨by simp only;omega,aN⟩,by simp only;omega⟩,.refl,ec,.cons rfl .nil⟩
 have bS:g.n<=i:=by have:¬ (i:Int)<(g.n:Int):=cR h;omega
 rw[iW (by omega),qX]at aN;intro gO;have ah:=gO.d ⟨jl,i' acc⟩ (.head _);exact⟨_,_,.pt rfl (by simp) .refl,nx ah,rfl,jl,rfl,by rw[aN];exact tP ..⟩
def agF:List Nat:=[140,141,142,143,144,145,146,147,148,143]
def N0:List Value:=[.func (.func 140) #[] #[],.func (.func 141) #[] #[],.func (.func 142) #[] #[],.func (.func 143) #[] #[],.func (.func 144) #[] #[],.func (.func 145) #[] #[],.func (.func 146) #[] #[],.func (.func 147) #[] #[],.func (.func 148) #[] #[],.func (.func 143) #[] #[]]
def agG:Spec Tryz.prog 122 [] I [] λv I' M'=>v=.agg N0.toArray/\I'=I/\M'=[]:=by refine bn [] aI Tryz.func122 rfl rfl rfl ?_;intro B av;exact⟨_,_,.refl,rfl,rfl,rfl⟩
def vW{a:Option Addr}{n c:Nat}{ks:List aM}(af:hW I M a n ks)(az:n<=140737488355328)(j:Nat)(aj:j<10)(al:d.k=j)(av:(j=3\/6<=j)->0<n) :
  Spec Tryz.prog (agF.getD j 0) [d.val,.slice a n c] I M λv I' M'=>v=(fE d ks).val/\I'=I/\M'=M:=by
 match j,aj,al,av with
 |0,_,al,_=>rw[show fE d ks=⟨true,false,false⟩ by simp[fE,al]];exact agv (I:=I) (M:=M) (d:=d) (a:=a) (n:=n) (c:=c)| 1,_,al,_=>rw[show fE d ks=⟨false,!d.oS,true⟩ by simp[fE,al]];exact agz (I:=I) (M:=M) (d:=d) (a:=a) (n:=n) (c:=c)| 2,_,al,_=>rw[show fE d ks=⟨false,true,true⟩ by simp[fE,al]];exact agw (I:=I) (M:=M) (d:=d) (a:=a) (n:=n) (c:=c)| 3,_,al,av=>rw[show fE d ks=ks.headD bw by simp[fE,al]];exact VL (d:=d) (c:=c) af (av (by omega))| 4,_,al,_=>rw[show fE d ks=Bc ks by simp[fE,al]];exact agC (d:=d) (c:=c) af az| 5,_,al,_=>rw[show fE d ks=Dm ks by simp[fE,al]];exact agB (d:=d) (c:=c) af az| 6,_,al,av=>rw[show fE d ks=r1 d (ks.headD bw) by simp[fE,al]];exact agA (d:=d) (c:=c) af (av (by omega))| 7,_,al,av=>rw[show fE d ks=⟨(ks.headD bw).lj,false,(ks.headD bw).f⟩ by simp[fE,al]];exact agx (d:=d) (c:=c) af (av (by omega))| 8,_,al,av=>rw[show fE d ks=⟨(ks.headD bw).f,false,(ks.headD bw).lj⟩ by simp[fE,al]];exact agy (d:=d) (c:=c) af (av (by omega))| 9,_,al,av=>rw[show fE d ks=ks.headD bw by simp[fE,al]];exact VL (d:=d) (c:=c) af (av (by omega))
def ft(b:Nat)(l:List aM):aD:=⟨b,.cells (l.flatMap aM.cells).toArray 146 (0,0)⟩
def s6(l:List aM):(l.flatMap aM.cells).length=l.length*3:=gd _ 3 aM.bI l
def Dn{b:Nat}{l:List aM}(aV:ft b l∈M){j:Nat}(aj:j<l.length):bq I M ((⟨b,0,none⟩:Addr).add (j*3)) 3 l[j].cells:=by have h:=dj (I:=I) (cs:=l.flatMap aM.cells) (k:=j*3) (n:=3) aV (by rw[s6];omega);rwa [xi aM.cells 3 aM.bI l j aj]at h
def JG(l:List aM)(j:Nat)(aj:j<l.length)(x:aM):bG (l.flatMap aM.cells) (j*3) x.cells=(l.set j x).flatMap aM.cells:=by
 have e:l.flatMap aM.cells=(l.take j).flatMap aM.cells++(l[j].cells++(l.drop (j+1)).flatMap aM.cells):=by
  have U:l=l.take j++(l[j]::l.drop (j+1)):=by rw[<-dv aj,rB]
  have ab:=congrArg (λq:List aM=>q.flatMap aM.cells) U;simp only[jF,mh]at ab;exact ab
 have ay:((l.take j).flatMap aM.cells).length=j*3:=by rw[s6,fH];congr 1;omega
 unfold bG;rw[Aq,cw aj,jF,mh,e,fx];congr 1
 ·rw[<-ay,CG]
 ·congr 1;rw[aM.bI,<-ay,<-fx,CF (by rw[cz,aM.bI])]
def Dp(l:List aM)(x:aM):(l++[x]).flatMap aM.cells=l.flatMap aM.cells++x.cells:=by simp
def aY.zero(h:os.ok size xs):aY.ok ⟨os.a,0,os.c,os.cur⟩ size []:=by refine⟨by simp,λaX=>⟨rfl,(h.nil aX).2⟩,λg ao=>?_⟩;obtain⟨U,ab,ak,aL⟩:=h.cap g ao;exact⟨U,bQ _,ak,by simp⟩
def aY.JH{l:List aM}(h:os.ok 3 (l.flatMap aM.cells))(aV:∀ x∈os.aw e,x∈M):hW I M (os.a.map λg=>⟨g,0,none⟩) os.n l:=by
 have ay:=h.len;rw[s6]at ay;refine⟨by omega,λj aj=>?_⟩;obtain⟨a,n,c,cur⟩:=os;simp only at ay;cases a with
 |none=>have:=(h.nil rfl).1;simp only at this;omega
 |some g=>
  obtain⟨U,ab,ak,aL⟩:=h.cap g rfl;simp only at U ab aL;refine⟨⟨g,0,none⟩,rfl,?_⟩;have hm:(⟨g,.cells cur.toArray e (0,0)⟩:aD)∈M:=aV _ (by simp[aY.aw]);have ag:=dj (I:=I) (cs:=cur) (k:=j*3) (n:=3) hm (by omega);have aF:(cur.drop (j*3)).take 3=((cur.take (n*3)).drop (j*3)).take 3:=by rw[Ar,xd];congr 1;omega
  rw[aF,aL,xi aM.cells 3 aM.bI l j aj]at ag;exact ag
def nD(pl:List (ByteArray×Int))(a4 acc:List aM)(d:aH):List aM:=
 d.kids.map (λk=>acc.getD k.toNat bw)++bif decide (d.k=3)then [a4.getD ((dP d.t pl).getD 0).toNat bw]else []
def dq(pl:List (ByteArray×Int))(a4:List aM):List aH->List aM->List aM
 |[],acc=>acc| d::ds,acc=>dq pl a4 ds (acc++[fE d (nD pl a4 acc d)])
def Bd(pl:List (ByteArray×Int))(a4:List aM):∀ (ds:List aH) (acc:List aM),(dq pl a4 ds acc).length=acc.length+ds.length
 |[],acc=>rfl| d::ds,acc=>by rw[dq,Bd];simp;omega
def VS(pl:List (ByteArray×Int))(n:Nat)(aa:List aH):Prop:=∀ d∈aa,d.k=3->∃ i:Nat,dP d.t pl=some (i:Int)/\i<n
def N1(h:fits d n=true):d.k<10:=by apply Int.lt_of_not_ge;intro bS;have:(10:Int)<=d.k:=bS;simp[fits,this]at h
def JI(av:0<=d.k)(h:fits d n=true)(af:6<=d.k):0<n:=by
 have rH:=N1 h;have Df:d.k=6\/d.k=7\/d.k=8\/d.k=9:=by omega
 rcases Df with e | e | e | e<;>(simp[fits,e,xj,tI,mo]at h;omega)
def VT(acc:List aM)(n i:Nat)(ay:acc.length=i)(hi:i<n)(x:aM):(acc++List.replicate (n-i) bw).set i x=(acc++[x])++List.replicate (n-(i+1)) bw:=by subst ay;rw[Da _ _ (b2 _),pZ,show n-acc.length=(n-(acc.length+1))+1 by omega,AO,Dd];simp
def N2:∀ n:Nat,rowOf bw.cells (n*3)=(List.replicate n bw).flatMap aM.cells:=λn=>by
 apply rE
 ·rw[s6,yz];simp[w0,madeCells]
 intro i U ab;have ak:∀ x∈(List.replicate n bw).flatMap aM.cells,x=Value.bool false:=λx ae=>by obtain⟨y,aA,ae⟩:=ud.1 ae;have:=Ju aA;subst this;simpa[aM.cells,bw]using ae
 rw[ak _ (bJ ab)];have a2:∀ j,j<3->bw.cells[j]! = Value.bool false:=λj aj=>by
  match j,aj with
  |0,_=>rfl| 1,_=>rfl| 2,_=>rfl
 simp only[rowOf,oP,NF];exact a2 _ (Nat.mod_lt _ (by decide))
def ui{acc:List aM}{n i:Nat}(lF:acc.length=i)(ax:i<n)(x:aM):Nat.ble (0+i*3+x.cells.length) ((acc++List.replicate (n-i) bw).flatMap aM.cells).length=true:=by rw[FW,s6,aM.bI,cz,yz];omega
set_option maxRecDepth 100000 in
def VU(aq:t.ok I)(ag:right t=true)(hm:I hH=some (i' pl)){a4:List aM}(im:hW I M0 p0 ln a4)(aC:VS pl ln t.aa) :
  Spec Tryz.prog 99 [.map (some hH),.slice p0 ln lc,t.val] I M0 λv I' M'=>I'=I/\∃ b,v=.slice (some ⟨b,0,none⟩) t.n t.n/\M'=ft b (dq pl a4 t.aa [])::M0:=by
 refine bn [] aI Tryz.func99 rfl rfl rfl ?_;intro B av;have g7:=aq.n;have gk:=aq.aJ.cap;refine aU.mk [] M0 _ (.refl _) agG ?_;rintro v bR M1 -⟨rfl,rfl,rfl⟩;refine mO.mk t.n t.n rfl rfl (b2 _) (by show 3*t.n<=_;omega) (by omega) ?_;refine bL.mk λhs N3 aqT=>?_;refine bu.inv (ι:=Nat×List aM×aY) (λx=>{ a4:=[(0,.val (.map (some hH))),(1,.val (.slice p0 ln lc)),(5,.ref 5 0),(7,.ref 7 0),(8,.val (.slice (some ⟨hs,0,none⟩) t.n t.n)),(9,.val x.2.2.val),(20,.val (.slice t.a t.n t.c)),(21,.val (.int .i64 t.n)),(22,.val (.int .i64 x.1))],cl:=[(5,t.cells),(7,N0)],br:=bR,bO:=ft hs (x.2.1++List.replicate (t.n-x.1) bw)::(x.2.2.aw 146++M0) }) (λx=>x.1<=t.n/\x.2.1.length=x.1/\dq pl a4 t.aa []=dq pl a4 (t.aa.drop x.1) x.2.1/\∃ ks,x.2.2.ok 3 ks) (λx=>t.n-x.1) ?_ ?_
 ·refine⟨(0,[],fs),⟨bQ _,rfl,rfl,[],fT 3⟩,?_,lE,.cons rfl (.cons rfl .nil)⟩;have e:rowOf bw.cells (t.n*3)=(List.replicate t.n bw).flatMap aM.cells:=N2 t.n;simp only[ft,hO,A5];rw[<-e];exact .refl
 rintro⟨i,acc,eE⟩⟨hi,lF,JJ,aqU,kq⟩;simp only at hi lF JJ kq;refine aB.mk (λh=>?_) (λh=>?_)
 rotate_left
 ·have bS:i=t.n:=by have:¬ (i:Int)<(t.n:Int):=cR h;omega
  subst bS;rw[iW (by omega),dq]at JJ;refine⟨bR,ft hs (acc++List.replicate (t.n-t.n) bw)::M0,.sub (.cons_cons _ (e' _ _)) .refl,rfl,hs,rfl,?_⟩;rw[JJ,pZ,List.replicate_zero,db]
 have ax:i<t.n:=by have:(i:Int)<(t.n:Int):=cq h;omega
 have bo:i<t.aa.length:=by omega
 obtain⟨ad,ba,a3⟩:=aq.aJ.row aH.bI ax bo;have cN:=bJ bo;have al:=aq.aa _ cN;have eR:=al.aZ;have qT:=al.aJ.cap;have fC:=h1 ag i bo;have kT:=tM ag bo;have za:=aC _ cN;have VV:dq pl a4 t.aa []=dq pl a4 (t.aa.drop (i+1)) (acc++[fE t.aa[i] (nD pl a4 acc t.aa[i])]):=by rw[JJ,dv bo,dq]
 generalize t.aa[i]=d at a3 al eR qT fC kT za VV;have gT:=al.k.1;have N4:=N1 kT;have lS:∀ {M:List aD} {q:Int},ft hs (acc++List.replicate (t.n-i) bw)∈M->q∈d.kids->bq bR M ((⟨hs,0,none⟩:Addr).add (q.toNat*3)) 3 (acc.getD q.toNat bw).cells:=fun {M q} aV a0=>by
  have xE:=fC q a0;have ee:q.toNat<acc.length:=by omega
  have:=Dn (I:=bR) aV (j:=q.toNat) (by rw[cz];omega);rw[C9 ee]at this;simpa[bV,ee]using this
 refine aW.mk ad i ba rfl ax ?_;refine aE.mk _ (a3 _) ?_;refine jv.mk 0 0 rfl rfl (b2 _) (bQ _) ?_;refine bu.inv (ι:=Nat×aY×List aM) (λx=>{ a4:=[(0,.val (.map (some hH))),(1,.val (.slice p0 ln lc)),(5,.ref 5 0),(7,.ref 7 0),(8,.val (.slice (some ⟨hs,0,none⟩) t.n t.n)),(9,.val x.2.1.val),(10,.val (.int .i64 i)),(11,.ref 11 0),(20,.val (.slice t.a t.n t.c)),(21,.val (.int .i64 t.n)),(22,.val (.int .i64 i)),(30,.val (.slice d.eA d.aZ d.ej)),(31,.val (.int .i64 d.aZ)),(32,.val (.int .i64 x.1))],cl:=[(5,t.cells),(7,N0),(11,d.cells)],br:=bR,bO:=ft hs (acc++List.replicate (t.n-i) bw)::(x.2.1.aw 146++M0) }) (λx=>x.1<=d.aZ/\x.2.1.ok 3 (x.2.2.flatMap aM.cells)/\x.2.2=(d.kids.take x.1).map λk=>acc.getD k.toNat bw) (λx=>d.aZ-x.1) ?_ ?_
 ·exact⟨(0,⟨eE.a,0,eE.c,eE.cur⟩,[]),⟨bQ _,aY.zero kq,rfl⟩,.refl,SS,.cons rfl (.cons rfl (.cons rfl .nil))⟩
 rintro⟨k,bZ,eN⟩⟨af,eh,bj⟩;simp only at af eh bj;have VW:bZ.n=eN.length:=by have:=eh.len;rw[s6]at this;omega
 have Gg:eN.length<=k:=by rw[bj,cT];exact rD _ _
 refine aB.mk (λh=>?_) (λh=>?_)
 ·have e6:k<d.aZ:=by have:(k:Int)<(d.aZ:Int):=cq h;omega
  have iS:k<d.kids.length:=by omega
  obtain⟨eU,eO,eB⟩:=al.aJ.one e6 iS;have a0:=fC _ (bJ iS);refine aW.mk eU k eO rfl e6 ?_;refine aE.mk _ (eB _) ?_;refine aW.mk ⟨hs,0,none⟩ d.kids[k].toNat rfl (by omega) (by omega) ?_;refine aE.mk _ (lS (.head _) (bJ iS)) ?_;refine bL.mk λbT h3 iF=>?_;refine bk.append aI rfl (by simp) (e:=146) rfl rfl rfl bZ eh rfl (m:=1) rfl (news:=(acc.getD d.kids[k].toNat bw).cells) (by decide) (dj (b:=bT) (cs:=(acc.getD d.kids[k].toNat bw).cells) (k:=0) (n:=3) (T:=146) (.head _) (b9 rfl)) rfl (Mr:=⟨bT,.cells (acc.getD d.kids[k].toNat bw).cells.toArray 146 (0,0)⟩::ft hs (acc++List.replicate (t.n-i) bw)::M0) (by
   have:=A4 [(⟨bT,.cells (acc.getD d.kids[k].toNat bw).cells.toArray 146 (0,0)⟩:aD),ft hs (acc++List.replicate (t.n-i) bw)] (bZ.aw 146) M0;exact this) (by simp only[maxLen];omega) (by show(bZ.n+1)*3<=_;omega) ?_
  intro bb dg s0 ha gf h6 oh;refine aQ.mk _ (bl (i:=k) (by omega)) ?_;refine⟨(k+1,⟨some bb,bZ.n+1,dg,s0⟩,eN++[acc.getD d.kids[k].toNat bw]),⟨⟨by simp only;omega,?_,?_⟩,by simp only;omega⟩,.sub (M1:=[(⟨bb,.cells s0.toArray 146 (0,0)⟩:aD),ft hs (acc++List.replicate (t.n-i) bw)]++M0) (.cons_cons _ (.cons _ (.refl _))) (.perm (List.Perm.swap _ _ _) .refl),SS,.cons rfl (.cons rfl (.cons rfl .nil))⟩;·simp only;rw[Dp];exact NQ eh (aM.bI _) ha gf h6 oh
  ·simp only;rw[er iS,eL,<-bj];rfl
 have bS:d.aZ<=k:=by have:¬ (k:Int)<(d.aZ:Int):=cR h;omega
 rw[dX (by omega)]at bj;have VX:eN.length=d.kids.length:=by rw[bj,cT]
 have hc:bZ.n+1<=140737488355328:=by omega
 clear h af Gg;have fN:∀ x:aM,bG ((acc++List.replicate (t.n-i) bw).flatMap aM.cells) (0+i*3) x.cells=((acc++[x])++List.replicate (t.n-(i+1)) bw).flatMap aM.cells:=λx=>by rw[cM,JG _ _ (by simp;omega),VT acc t.n i lF ax]
 have hinv:∀ (Be:aY) (N5:List Value),Be.ok 3 N5->((i+1<=t.n/\(acc++[fE d (nD pl a4 acc d)]).length=i+1/\dq pl a4 t.aa []=dq pl a4 (t.aa.drop (i+1)) (acc++[fE d (nD pl a4 acc d)])/\∃ ks,Be.ok 3 ks)/\t.n-(i+1)<t.n-i):=λBe N5 ab=>
  ⟨⟨ax,by simp[lF],VV,N5,ab⟩,by omega⟩
 by_cases ak:d.k=3
 ·refine aB.mk (λ_=>?_) (λh=>absurd h (by simp[ak]));obtain⟨q,vX,vY⟩:=za ak;have Gh:nD pl a4 acc d=eN++[a4.getD q bw]:=by rw[nD,<-bj,vX,ak];rfl
  have ee:q<a4.length:=by rw[im.n];exact vY
  obtain⟨gX,tW,dp⟩:=im.rd q ee;have agH:a4.getD q bw=a4[q]:=by simp[bV,ee]
  refine bk.agE aI rfl (by simp) rfl rfl rfl rfl (λw=>FK w) (l:=pl) (g:=hH) rfl rfl (.inl hm) ?_;rw[vX];refine aW.mk gX q tW rfl vY ?_;refine aE.mk _ (dp.sub λx ae=>by simp[ae]) ?_;refine bL.mk λbT h3 iF=>?_;refine bk.append aI rfl (by simp) (e:=146) rfl rfl rfl bZ eh rfl (m:=1) rfl (news:=a4[q].cells) (by decide) (dj (b:=bT) (cs:=a4[q].cells) (k:=0) (n:=3) (T:=146) (.head _) (b9 rfl)) rfl (Mr:=⟨bT,.cells a4[q].cells.toArray 146 (0,0)⟩::ft hs (acc++List.replicate (t.n-i) bw)::M0) (by
   have:=A4 [(⟨bT,.cells a4[q].cells.toArray 146 (0,0)⟩:aD),ft hs (acc++List.replicate (t.n-i) bw)] (bZ.aw 146) M0;exact this) (by simp only[maxLen];omega) (by show(bZ.n+1)*3<=_;omega) ?_
  intro bb dg s0 ha gf h6 oh;have eX:=NQ (g:=bb) eh (aM.bI a4[q]) ha gf h6 oh;rw[<-Dp,<-agH,<-Gh]at eX;have hT:=aY.JH (I:=bR) (M:=⟨bb,.cells s0.toArray 146 (0,0)⟩::⟨bT,.cells a4[q].cells.toArray 146 (0,0)⟩::ft hs (acc++List.replicate (t.n-i) bw)::M0) (e:=146) eX (λx ae=>by
   simp only[aY.aw,fb]at ae;subst ae;exact .head _)
  refine cr.draw aI rfl rfl rfl ?_;obtain⟨rU,cF,s1,s2,dt,jH,lo,ck,uj,uk,um,uo⟩:=d;simp only at ak;subst ak;refine eb.mk 3 rfl (by decide) ?_;refine e7.mT _ [] _ perm_nil (vW (d:=⟨3,cF,s1,s2,dt,jH,lo,ck,uj,uk,um,uo⟩) hT hc 3 (by decide) rfl (λ_=>Nat.succ_pos _)) (λv I' M' h x ae=>by rw[h.2.2];exact ae) ?_;rintro v dG ew -⟨rfl,rfl,rfl⟩;rw[db];refine aW.mk ⟨hs,0,none⟩ i rfl rfl ax ?_;refine cu.kN [(⟨bb,.cells s0.toArray 146 (0,0)⟩:aD),⟨bT,.cells a4[q].cells.toArray 146 (0,0)⟩] M0 ((acc++List.replicate (t.n-i) bw).flatMap aM.cells) _ rfl (ui lF ax _) rfl _ (fN _) ?_;refine aQ.mk _ (bl (i:=i) (by omega)) ?_;exact⟨(i+1,_,⟨some bb,bZ.n+1,dg,s0⟩),hinv _ _ eX,.sub (M1:=[(⟨bb,.cells s0.toArray 146 (0,0)⟩:aD),ft hs _]++M0) (.cons_cons _ (.cons _ (.refl _))) (.perm (List.Perm.swap _ _ _) .refl),lE,.cons rfl (.cons rfl .nil)⟩
 refine aB.mk (λh=>absurd (cq h) ak) (λ_=>?_);have Gh:nD pl a4 acc d=eN:=by rw[nD,<-bj,dk ak];simp
 rw[Gh]at hinv;have hT:=aY.JH (I:=bR) (M:=ft hs (acc++List.replicate (t.n-i) bw)::(bZ.aw 146++M0)) (e:=146) eh (λx ae=>by simp[ae]);have g2:6<=d.k->0<bZ.n:=λb5=>by have:=JI gT kT b5;omega
 have Df:d.k=0\/d.k=1\/d.k=2\/d.k=4\/d.k=5\/d.k=6\/d.k=7\/d.k=8\/d.k=9:=by omega
 obtain⟨rU,cF,s1,s2,dt,jH,lo,ck,uj,uk,um,uo⟩:=d;simp only at Df g2 ak;refine cr.draw aI rfl rfl rfl ?_;rcases Df with rfl | rfl | rfl | rfl | rfl | rfl | rfl | rfl | rfl
 ·refine eb.mk 0 rfl (by decide) ?_;refine e7.mT _ [] _ perm_nil (vW (d:=⟨0,cF,s1,s2,dt,jH,lo,ck,uj,uk,um,uo⟩) hT (xD hc) 0 (by decide) rfl (λh=>by omega)) (λv I' M' h x ae=>by rw[h.2.2];exact ae) ?_;rintro v dG ew -⟨rfl,rfl,rfl⟩;rw[db];refine aW.mk ⟨hs,0,none⟩ i rfl rfl ax ?_;refine cu.kN [] (bZ.aw 146++M0) ((acc++List.replicate (t.n-i) bw).flatMap aM.cells) _ rfl (ui lF ax _) rfl _ (fN _) ?_;refine aQ.mk _ (bl (i:=i) (by omega)) ?_;exact⟨(i+1,_,bZ),hinv _ _ eh,.refl,lE,.cons rfl (.cons rfl .nil)⟩
 ·refine eb.mk 1 rfl (by decide) ?_;refine e7.mT _ [] _ perm_nil (vW (d:=⟨1,cF,s1,s2,dt,jH,lo,ck,uj,uk,um,uo⟩) hT (xD hc) 1 (by decide) rfl (λh=>by omega)) (λv I' M' h x ae=>by rw[h.2.2];exact ae) ?_;rintro v dG ew -⟨rfl,rfl,rfl⟩;rw[db];refine aW.mk ⟨hs,0,none⟩ i rfl rfl ax ?_;refine cu.kN [] (bZ.aw 146++M0) ((acc++List.replicate (t.n-i) bw).flatMap aM.cells) _ rfl (ui lF ax _) rfl _ (fN _) ?_;refine aQ.mk _ (bl (i:=i) (by omega)) ?_;exact⟨(i+1,_,bZ),hinv _ _ eh,.refl,lE,.cons rfl (.cons rfl .nil)⟩
 ·refine eb.mk 2 rfl (by decide) ?_;refine e7.mT _ [] _ perm_nil (vW (d:=⟨2,cF,s1,s2,dt,jH,lo,ck,uj,uk,um,uo⟩) hT (xD hc) 2 (by decide) rfl (λh=>by omega)) (λv I' M' h x ae=>by rw[h.2.2];exact ae) ?_;rintro v dG ew -⟨rfl,rfl,rfl⟩;rw[db];refine aW.mk ⟨hs,0,none⟩ i rfl rfl ax ?_;refine cu.kN [] (bZ.aw 146++M0) ((acc++List.replicate (t.n-i) bw).flatMap aM.cells) _ rfl (ui lF ax _) rfl _ (fN _) ?_;refine aQ.mk _ (bl (i:=i) (by omega)) ?_;exact⟨(i+1,_,bZ),hinv _ _ eh,.refl,lE,.cons rfl (.cons rfl .nil)⟩
 ·refine eb.mk 4 rfl (by decide) ?_;refine e7.mT _ [] _ perm_nil (vW (d:=⟨4,cF,s1,s2,dt,jH,lo,ck,uj,uk,um,uo⟩) hT (xD hc) 4 (by decide) rfl (λh=>by omega)) (λv I' M' h x ae=>by rw[h.2.2];exact ae) ?_;rintro v dG ew -⟨rfl,rfl,rfl⟩;rw[db];refine aW.mk ⟨hs,0,none⟩ i rfl rfl ax ?_;refine cu.kN [] (bZ.aw 146++M0) ((acc++List.replicate (t.n-i) bw).flatMap aM.cells) _ rfl (ui lF ax _) rfl _ (fN _) ?_;refine aQ.mk _ (bl (i:=i) (by omega)) ?_;exact⟨(i+1,_,bZ),hinv _ _ eh,.refl,lE,.cons rfl (.cons rfl .nil)⟩
 ·refine eb.mk 5 rfl (by decide) ?_;refine e7.mT _ [] _ perm_nil (vW (d:=⟨5,cF,s1,s2,dt,jH,lo,ck,uj,uk,um,uo⟩) hT (xD hc) 5 (by decide) rfl (λh=>by omega)) (λv I' M' h x ae=>by rw[h.2.2];exact ae) ?_;rintro v dG ew -⟨rfl,rfl,rfl⟩;rw[db];refine aW.mk ⟨hs,0,none⟩ i rfl rfl ax ?_;refine cu.kN [] (bZ.aw 146++M0) ((acc++List.replicate (t.n-i) bw).flatMap aM.cells) _ rfl (ui lF ax _) rfl _ (fN _) ?_;refine aQ.mk _ (bl (i:=i) (by omega)) ?_;exact⟨(i+1,_,bZ),hinv _ _ eh,.refl,lE,.cons rfl (.cons rfl .nil)⟩
 ·refine eb.mk 6 rfl (by decide) ?_;refine e7.mT _ [] _ perm_nil (vW (d:=⟨6,cF,s1,s2,dt,jH,lo,ck,uj,uk,um,uo⟩) hT (xD hc) 6 (by decide) rfl (λ_=>g2 (by decide))) (λv I' M' h x ae=>by rw[h.2.2];exact ae) ?_;rintro v dG ew -⟨rfl,rfl,rfl⟩;rw[db];refine aW.mk ⟨hs,0,none⟩ i rfl rfl ax ?_;refine cu.kN [] (bZ.aw 146++M0) ((acc++List.replicate (t.n-i) bw).flatMap aM.cells) _ rfl (ui lF ax _) rfl _ (fN _) ?_;refine aQ.mk _ (bl (i:=i) (by omega)) ?_;exact⟨(i+1,_,bZ),hinv _ _ eh,.refl,lE,.cons rfl (.cons rfl .nil)⟩
 ·refine eb.mk 7 rfl (by decide) ?_;refine e7.mT _ [] _ perm_nil (vW (d:=⟨7,cF,s1,s2,dt,jH,lo,ck,uj,uk,um,uo⟩) hT (xD hc) 7 (by decide) rfl (λ_=>g2 (by decide))) (λv I' M' h x ae=>by rw[h.2.2];exact ae) ?_;rintro v dG ew -⟨rfl,rfl,rfl⟩;rw[db];refine aW.mk ⟨hs,0,none⟩ i rfl rfl ax ?_;refine cu.kN [] (bZ.aw 146++M0) ((acc++List.replicate (t.n-i) bw).flatMap aM.cells) _ rfl (ui lF ax _) rfl _ (fN _) ?_;refine aQ.mk _ (bl (i:=i) (by omega)) ?_;exact⟨(i+1,_,bZ),hinv _ _ eh,.refl,lE,.cons rfl (.cons rfl .nil)⟩
 ·refine eb.mk 8 rfl (by decide) ?_;refine e7.mT _ [] _ perm_nil (vW (d:=⟨8,cF,s1,s2,dt,jH,lo,ck,uj,uk,um,uo⟩) hT (xD hc) 8 (by decide) rfl (λ_=>g2 (by decide))) (λv I' M' h x ae=>by rw[h.2.2];exact ae) ?_;rintro v dG ew -⟨rfl,rfl,rfl⟩;rw[db];refine aW.mk ⟨hs,0,none⟩ i rfl rfl ax ?_;refine cu.kN [] (bZ.aw 146++M0) ((acc++List.replicate (t.n-i) bw).flatMap aM.cells) _ rfl (ui lF ax _) rfl _ (fN _) ?_;refine aQ.mk _ (bl (i:=i) (by omega)) ?_;exact⟨(i+1,_,bZ),hinv _ _ eh,.refl,lE,.cons rfl (.cons rfl .nil)⟩
 ·refine eb.mk 9 rfl (by decide) ?_;refine e7.mT _ [] _ perm_nil (vW (d:=⟨9,cF,s1,s2,dt,jH,lo,ck,uj,uk,um,uo⟩) hT (xD hc) 9 (by decide) rfl (λ_=>g2 (by decide))) (λv I' M' h x ae=>by rw[h.2.2];exact ae) ?_;rintro v dG ew -⟨rfl,rfl,rfl⟩;rw[db];refine aW.mk ⟨hs,0,none⟩ i rfl rfl ax ?_;refine cu.kN [] (bZ.aw 146++M0) ((acc++List.replicate (t.n-i) bw).flatMap aM.cells) _ rfl (ui lF ax _) rfl _ (fN _) ?_;refine aQ.mk _ (bl (i:=i) (by omega)) ?_;exact⟨(i+1,_,bZ),hinv _ _ eh,.refl,lE,.cons rfl (.cons rfl .nil)⟩
structure aM.le(a b:aM):Prop where
 z:a.z=true->b.z=true
 s:a.s=true->b.s=true
 f:a.f=true->b.f=true
def aM.le_refl(a:aM):a.le a:=⟨id,id,id⟩
def aM.le.trans{a b c:aM}(h:a.le b)(aG:b.le c):a.le c:=⟨λx=>aG.z (h.z x),λx=>aG.s (h.s x),λx=>aG.f (h.f x)⟩
def aM.le.antisymm{a b:aM}(h:a.le b)(aG:b.le a):a=b:=by
 obtain⟨ca,dC,dz⟩:=a;obtain⟨b1,cc,gR⟩:=b;have e:∀ {x y:Bool},(x=true->y=true)->(y=true->x=true)->x=y:=fun {x y} h aG=>by cases x<;>cases y<;>simp_all
 have aF:ca=b1:=e h.z aG.z;have a7:dC=cc:=e h.s aG.s;have bC:dz=gR:=e h.f aG.f;subst aF a7 bC;rfl
def aM.m8(a:aM):bw.le a:=⟨(λh=>by cases h),(λh=>by cases h),(λh=>by cases h)⟩
def within(a b:aM):Bool:=(!a.z||b.z)&&((!a.s||b.s)&&(!a.f||b.f))
def aM.N6{a b:aM}(h:a.le b):a.lj=true->b.lj=true:=by intro ar;simp only[aM.lj,j0]at ar |-;exact ar.imp h.z h.s
inductive ep:List aM->List aM->Prop
 |nil:ep [] []| cons {a b l m} (h:aM.le a b) (t:ep l m):ep (a::l) (b::m)
def ep.refl:∀ l,ep l l
 |[]=>.nil| a::l=>.cons a.le_refl (ep.refl l)
def ep.trans:∀ {a b c},ep a b->ep b c->ep a c
 |_,_,_,.nil,.nil=>.nil| _,_,_,.cons h t,.cons aG bh=>.cons (h.trans aG) (t.trans bh)
def ep.antisymm:∀ {a b},ep a b->ep b a->a=b
 |_,_,.nil,_=>rfl| _,_,.cons h t,.cons aG bh=>by rw[h.antisymm aG,t.antisymm bh]
def ep.len:∀ {a b},ep a b->a.length=b.length
 |_,_,.nil=>rfl| _,_,.cons h t=>by simp[t.len]
def ep.append:∀ {a b c d},ep a b->ep c d->ep (a++c) (b++d)
 |_,_,_,_,.nil,h=>h| _,_,_,_,.cons h t,aG=>.cons h (t.append aG)
def ep.getD:∀ {a b},ep a b->∀ i,(a.getD i bw).le (b.getD i bw)
 |_,_,.nil,i=>by simp;exact aM.le_refl _
 |_,_,.cons h t,0=>h| _,_,.cons h t,i+1=>by simpa using t.getD i
def ep.of:∀ {a b:List aM},a.length=b.length->(∀ i,i<a.length->(a.getD i bw).le (b.getD i bw))->ep a b
 |[],[],_,_=>.nil| x::a,y::b,ay,h=>.cons (by simpa using h 0 (by simp)) (ep.of (by simpa using ay) λi hi=>by simpa using h (i+1) (by simpa using hi))
def ep.map{α:Type}{f g:α->aM}:∀ {l:List α},(∀ x∈l,(f x).le (g x))->ep (l.map f) (l.map g)
 |[],_=>.nil| x::l,h=>.cons (h x (.head _)) (ep.map λy aA=>h y (.tail _ aA))
def ep.head{a b:List aM}(h:ep a b):(a.headD bw).le (b.headD bw):=by
 cases h with
 |nil=>exact aM.le_refl _| cons h _=>exact h
def ep.m8:∀ l:List aM,ep (List.replicate l.length bw) l
 |[]=>.nil| a::l=>.cons a.m8 (ep.m8 l)
def VY:∀ {a b:List aM},ep a b->∀ {x y:aM×Bool},x.1.le y.1->(x.2=true->y.2=true)->(a.foldl kv x).1.le (b.foldl kv y).1/\((a.foldl kv x).2=true->(b.foldl kv y).2=true)
 |_,_,.nil,_,_,U,ab=>⟨U,ab⟩
 |_,_,.cons h t,x,y,U,ab=>by
  refine VY t ⟨?_,?_,?_⟩ ?_;·simp only[kv,b'];exact λg=>⟨U.z g.1,h.z g.2⟩
  ·simp only[kv,j0];exact λg=>g.imp U.s h.s
  ·simp only[kv,j0,b'];exact λg=>g.imp U.f λg=>⟨ab g.1,h.f g.2⟩
  ·simp only[kv,b'];exact λg=>⟨ab g.1,aM.N6 h g.2⟩
def VZ:∀ {a b:List aM},ep a b->∀ {x y:aM},x.le y->(a.foldl om x).le (b.foldl om y)
 |_,_,.nil,_,_,U=>U
 |_,_,.cons h t,x,y,U=>by
  refine VZ t ⟨?_,?_,?_⟩;·simp only[om,j0,b'];exact λg=>g.imp U.z λg=>⟨U.f g.1,h.z g.2⟩
  ·simp only[om,j0,b'];exact λg=>g.imp U.s λg=>⟨U.f g.1,h.s g.2⟩
  ·simp only[om,b'];exact λg=>⟨U.f g.1,h.f g.2⟩
def agI(d:aH){a b:aM}(h:a.le b):(r1 d a).le (r1 d b):=by
 unfold r1;cases decide (d.hi=0)with
 |true=>exact aM.le_refl _
 |false=>
  refine⟨?_,h.s,?_⟩;·simp only[bz,j0,b'];exact λg=>g.imp h.z λg=>⟨g.1,h.f g.2⟩
  ·simp only[bz,b'];exact λg=>⟨g.1,h.f g.2⟩
def agJ(d:aH){a b:List aM}(h:ep a b):(fE d a).le (fE d b):=by
 have cj:=h.head;unfold fE;cases decide (d.k=0)with
 |true=>exact aM.le_refl _| false=>
 cases decide (d.k=1)with
 |true=>exact aM.le_refl _| false=>
 cases decide (d.k=2)with
 |true=>exact aM.le_refl _| false=>
 cases decide (d.k=3)with
 |true=>exact cj| false=>
 cases decide (d.k=4)with
 |true=>have ar:=VY h (x:=(⟨true,false,false⟩,true)) (y:=(⟨true,false,false⟩,true)) (aM.le_refl _) id;refine⟨ar.1.z,?_,ar.1.f⟩;simp only[bt,bz,Bc,qV,b'];exact λg=>⟨ar.1.s g.1,ar.2 g.2⟩
 |false=>
 cases decide (d.k=5)with
 |true=>exact VZ h (aM.le_refl _)| false=>
 cases decide (d.k=6)with
 |true=>exact agI d cj| false=>
 cases decide (d.k=7)with
 |true=>exact⟨aM.N6 cj,id,cj.f⟩| false=>
 cases decide (d.k=8)with
 |true=>exact⟨cj.f,id,aM.N6 cj⟩| false=>exact cj
def agK{a4 zb acc Gi:List aM}(h:ep a4 zb)(aX:ep acc Gi)(d:aH):ep (nD pl a4 acc d) (nD pl zb Gi d):=by
 unfold nD;refine(ep.map λk _=>aX.getD _).append ?_;cases decide (d.k=3)with
 |true=>exact .cons (h.getD _) .nil| false=>exact .nil
def V0{pl:List (ByteArray×Int)}{a4 zb:List aM}(h:ep a4 zb):∀ (ds:List aH) {acc Gi:List aM},ep acc Gi->ep (dq pl a4 ds acc) (dq pl zb ds Gi)
 |[],_,_,aX=>aX| d::ds,_,_,aX=>V0 h ds (aX.append (.cons (agJ d (agK h aX d)) .nil))
def gl(pl:List (ByteArray×Int))(a4:List aM)(d:aK):aM:=(dq pl a4 d.t.aa []).getD d.t.root.toNat bw
def Gj{a4 zb:List aM}(h:ep a4 zb)(d:aK):(gl pl a4 d).le (gl pl zb d):=(V0 h d.t.aa .nil).getD _
def m9(pl:List (ByteArray×Int)):Nat->List aK->List aM->List aM
 |_,[],l=>l| i,d::ds,l=>m9 pl (i+1) ds (l.set i (gl pl l d))
structure nE(ds:List aK)(l:List aM):Prop where
 len:l.length=ds.length
 up:∀ i (h:i<ds.length),(l.getD i bw).le (gl (a' ds) l ds[i])
 least:∀ m:List aM,m.length=ds.length->(∀ i (h:i<ds.length),(gl (a' ds) m ds[i]).le (m.getD i bw))->ep l m
def Gk(l:List aM)(i j:Nat)(x:aM)(hi:i<l.length):(l.set i x).getD j bw=if i=j then x else l.getD j bw:=by
 simp only[bV,iz];by_cases e:i=j
 ·subst e;simp[hi]
 ·rw[cB e,cB e]
def nE.start(ds:List aK):nE ds (List.replicate ds.length bw):=by
 refine⟨by simp,λi h=>?_,λm hm _=>by rw[<-hm];exact ep.m8 m⟩;have:(List.replicate ds.length bw).getD i bw=bw:=by simp[bV,h]
 rw[this];exact aM.m8 _
def nE.step{ds:List aK}{l:List aM}(h:nE ds l){i:Nat}(hi:i<ds.length):nE ds (l.set i (gl (a' ds) l ds[i]))/\ep l (l.set i (gl (a' ds) l ds[i])):=by
 have cd:i<l.length:=by rw[h.len];exact hi
 have hle:ep l (l.set i (gl (a' ds) l ds[i])):=ep.of (by simp) λj aj=>by
  rw[Gk _ _ _ _ cd];by_cases e:i=j;·subst e;rw[cw rfl];exact h.up i hi
  ·rw[cB e];exact aM.le_refl _
 refine⟨⟨by simpa using h.len,λj aj=>?_,λm hm aC=>?_⟩,hle⟩
 ·rw[Gk _ _ _ _ cd];by_cases e:i=j
  ·subst e;rw[cw rfl];exact Gj hle _
  ·rw[cB e];exact(h.up j aj).trans (Gj hle _)
 ·have Gl:=h.least m hm aC;refine ep.of (by simp[h.len,hm]) λj aj=>?_;rw[Gk _ _ _ _ cd];by_cases e:i=j
  ·subst e;rw[cw rfl];exact(Gj Gl _).trans (aC i hi)
  ·rw[cB e];exact Gl.getD j
def N7{ds:List aK}:∀ (rest pre:List aK) {l:List aM},ds=pre++rest->nE ds l->nE ds (m9 (a' ds) pre.length rest l)/\ep l (m9 (a' ds) pre.length rest l) /\ (m9 (a' ds) pre.length rest l=l->∀ i (h:i<ds.length),pre.length<=i->l.getD i bw=gl (a' ds) l ds[i])
 |[],pre,l,e0,h=>⟨h,ep.refl l,λ_ i hi bS=>by rw[e0,db]at hi;omega⟩
 |d::rest,pre,l,e0,h=>by
  have hi:pre.length<ds.length:=by rw[e0];simp
  have al:ds[pre.length]=d:=by simp[e0]
  have cd:pre.length<l.length:=by rw[h.len];exact hi
  obtain⟨s1,s2⟩:=h.step hi;rw[al]at s1 s2;obtain⟨ha,gf,h6⟩:=N7 rest (pre++[d]) (by rw[e0];simp) s1;rw[cz,cS,dI,cM]at ha gf h6;refine⟨ha,s2.trans gf,λe i hA bS=>?_⟩;have aF:l.set pre.length (gl (a' ds) l d)=l:=by refine ep.antisymm ?_ s2;have:m9 (a' ds) pre.length (d::rest) l=m9 (a' ds) (pre.length+1) rest (l.set pre.length (gl (a' ds) l d)):=rfl;rw[this]at e;rw[e]at gf;exact gf
  have a7:m9 (a' ds) (pre.length+1) rest l=l:=by have:m9 (a' ds) pre.length (d::rest) l=m9 (a' ds) (pre.length+1) rest (l.set pre.length (gl (a' ds) l d)):=rfl;rw[this,aF]at e;exact e
  rw[aF]at h6;by_cases aN:i=pre.length;·subst aN;have aL:=Gk l pre.length pre.length (gl (a' ds) l d) cd;rw[aF,cw rfl]at aL;rw[aL,al]
  ·exact h6 a7 i hA (by omega)
structure h7(ds:List aK)(l:List aM):Prop where
 len:l.length=ds.length
 fix:∀ i (h:i<ds.length),l.getD i bw=gl (a' ds) l ds[i]
 least:∀ m:List aM,m.length=ds.length->(∀ i (h:i<ds.length),(gl (a' ds) m ds[i]).le (m.getD i bw))->ep l m
def nE.done{ds:List aK}{l:List aM}(h:nE ds l)(au:m9 (a' ds) 0 ds l=l):h7 ds l:=
 ⟨h.len,λi hi=>(N7 ds [] rfl h).2.2 au i hi (bQ _),h.least⟩
def h7.unique{ds:List aK}{l dy:List aM}(h:h7 ds l)(aG:h7 ds dy):l=dy:=
 ep.antisymm (h.least dy aG.len λi hi=>by rw[<-aG.fix i hi];exact aM.le_refl _) (aG.least l h.len λi hi=>by rw[<-h.fix i hi];exact aM.le_refl _)
def Bf(x:aM):Nat:=(bif x.z then 0 else 1)+((bif x.s then 0 else 1)+(bif x.f then 0 else 1))
def uq(l:List aM):Nat:=(l.map Bf).sum
def agL{a b:aM}(h:a.le b):Bf b<=Bf a/\(Bf a<=Bf b->a=b):=by
 obtain⟨ca,dC,dz⟩:=a;obtain⟨b1,cc,gR⟩:=b;obtain⟨U,ab,ak⟩:=h;cases ca<;>cases b1<;>cases dC<;>cases cc<;>cases dz<;>cases gR<;>simp_all[Bf]
def V1:∀ {l m:List aM},ep l m->uq m<=uq l/\(uq l<=uq m->l=m)
 |_,_,.nil=>⟨b2 _,λ_=>rfl⟩| _,_,.cons h t=>by obtain⟨U,ab⟩:=agL h;obtain⟨t1,t2⟩:=V1 t;simp only[uq,cZ,n4]at t1 t2 |-;refine⟨by omega,λh=>?_⟩;rw[ab (by omega),t2 (by omega)]
def V2{l m:List aM}(h:ep l m)(bB:m≠l):uq m<uq l:=by obtain⟨U,ab⟩:=V1 h;apply Nat.lt_of_le_of_ne U;intro e;exact bB (ab (by omega)).symm
def xJ(nm:ByteArray):List aK->Nat->Option Int
 |[],_=>none| d::ds,i=>bif decide (nm=d.name)then some (i:Int)else xJ nm ds (i+1)
def V3(s n:ByteArray)(v:Int):∀ l:List (ByteArray×Int),dP s (l++[(n,v)])=match dP s l with
  |some x=>some x| none=>bif decide (s=n)then some v else none
 |[]=>rfl
 |p::l=>by
  have a8:=V3 s n v l;simp only[oO,dP];cases decide (s=p.1)with
  |true=>rfl| false=>simpa using a8
def V4:∀ (ds:List aK) (acc:List (ByteArray×Int)) (i:Nat) (nm:ByteArray),dP nm (qX acc i ds)=match dP nm acc with
  |some x=>some x| none=>xJ nm ds i
 |[],acc,i,nm=>by rw[qX,xJ];cases dP nm acc<;>rfl
 |d::ds,acc,i,nm=>by
  rw[qX,V4 ds,xJ];cases al:(dP d.name acc).isSome with
  |true=>
   simp only[bt];cases ay:dP nm acc with
   |some x=>rfl
   |none=>
    have:decide (nm=d.name)=false:=by rw[rA];intro e;rw[<-e,ay]at al;cases al
    rw[this];rfl
  |false=>
   simp only[bz,V3];cases ay:dP nm acc with
   |some x=>rfl| none=>cases decide (nm=d.name)<;>rfl
def JK(ds:List aK)(nm:ByteArray):dP nm (a' ds)=xJ nm ds 0:=V4 ds [] 0 nm
def JL:∀ {ds:List aK} {i:Nat} {nm:ByteArray} {v:Int},xJ nm ds i=some v->∃ j:Nat,v=((i+j:Nat):Int)/\j<ds.length
 |d::ds,i,nm,v,h=>by
  unfold xJ at h;cases al:decide (nm=d.name)with
  |true=>rw[al]at h;simp only[bt,jY]at h;exact⟨0,by rw[<-h];rfl,by simp⟩| false=>rw[al]at h;obtain⟨j,U,ab⟩:=JL h;exact⟨j+1,by rw[U];congr 1;omega,by simpa using ab⟩
def lT(pl:List (ByteArray×Int))(aa:List aH):Bool:=aa.all λd=>!decide (d.k=3)||(dP d.t pl).isSome
def V5{ds:List aK}(h:lT (a' ds) aa=true):VS (a' ds) ds.length aa:=by intro d al af;have:=et.1 h d al;simp only[af,A6,nS,mL]at this;obtain⟨v,ai⟩:=Option.isSome_iff_exists.1 this;have j4:=ai;rw[JK]at j4;obtain⟨j,U,ab⟩:=JL j4;rw[cM]at U;exact⟨j,by rw[ai,U],ab⟩
def V6:∀ (ds:List aK) {acc r:List (ByteArray×Int)} {i:Nat},lg acc i ds=some r->qX acc i ds=r
 |[],acc,r,i,h=>by simp only[lg,jY]at h;exact h
 |d::ds,acc,r,i,h=>by
  unfold lg at h;cases al:(dP d.name acc).isSome with
  |true=>rw[al]at h;cases h| false=>rw[al]at h;rw[qX,al];exact V6 ds h
def agM{d:aK}{bE:aH}(az:bE∈d.t.aa):∀ (ds:List aK) (i:Nat),d∈ds->∃ j,(j,bE)∈pU i ds:=by
 intro ds
 induction ds with
 |nil=>intro i al;cases al
 |cons x ds a8=>
  intro i al;rcases ea.1 al with e | al;·subst e;exact⟨i,dm.2 (.inl (dB.2 ⟨bE,az,rfl⟩))⟩
  ·obtain⟨j,aj⟩:=a8 (i+1) al;exact⟨j,dm.2 (.inr aj)⟩
def agN(h:cn deb g=0):∀ d∈g.ds,lT (a' g.ds) d.t.aa=true:=by
 unfold cn at h;cases U:decide ((g.n:Int)=0)with
 |true=>rw[U]at h;cases h| false=>
 cases ab:mv g.ds with
 |false=>rw[U,ab]at h;cases h| true=>
 cases ak:iZ deb g with
 |true=>rw[U,ab,ak]at h;cases h| false=>
 rw[U,ab,ak]at h;simp only[bz,nS]at h;split at h
 ·cases h
 ·rename_i acc lF;have aN:a' g.ds=acc:=V6 g.ds lF;cases aL:qO acc g.ds with
  |false=>rw[aL]at h;cases h| true=>intro d al;rw[aN,lT,et];intro bE bW;obtain⟨j,aj⟩:=agM bW g.ds 0 al;exact et.1 aL _ aj
def agO(h:cn deb g=0):mv g.ds=true:=by
 unfold cn at h;cases U:decide ((g.n:Int)=0)with
 |true=>rw[U]at h;cases h| false=>
 cases ab:mv g.ds with
 |false=>rw[U,ab]at h;cases h| true=>rfl
def hW.mono{a:Option Addr}{n:Nat}{ks:List aM}(h:hW I M a n ks)(cg:∀ b o,I b=some o->I' b=some o):hW I' M a n ks:=
 ⟨h.n,λj aj=>by
  obtain⟨ad,U,ab⟩:=h.rd j aj;exact⟨ad,U,ab.mono cg⟩⟩
def hW.sub{I:aT}{M M':List aD}{a:Option Addr}{n:Nat}{ks:List aM}(h:hW I M a n ks)(aV:∀ x∈M,x∈M'):hW I M' a n ks:=
 ⟨h.n,λj aj=>by
  obtain⟨ad,U,ab⟩:=h.rd j aj;exact⟨ad,U,ab.sub aV⟩⟩
def JM{b:Nat}{l:List aM}(aV:ft b l∈M):hW I M (some ⟨b,0,none⟩) l.length l:=
 ⟨rfl,λj aj=>⟨_,rfl,Dn aV aj⟩⟩
def lU(g:bP)(a4:List aM)(t:bx):Option (List aM):=bif decide (a4.length=g.n)&&(right t&&lT (a' g.ds) t.aa)then some (dq (a' g.ds) a4 t.aa [])else none
def agP(bA:fr I deb)(ao:g.ok I)(aq:t.ok I){a4:List aM}(im:hW I M0 p0 ln a4) :
  Spec Tryz.prog 68 [g.val,.slice p0 ln lc,t.val] I M0 λv I' M'=>(∀ b o,I b=some o->I' b=some o) /\
   ((lU g a4 t=none/\v=.tuple #[.slice none 0 0,.bool false]/\M'=M0)\/∃ r b,lU g a4 t=some r/\v=.tuple #[.slice (some ⟨b,0,none⟩) t.n t.n,.bool true]/\M'=ft b r::M0):=by
 refine bn [] aI Tryz.func68 rfl rfl rfl ?_;intro B av;have cK:=ao.n;have g7:=aq.n;have gk:=aq.aJ.cap;have o7:=im.n;refine a9.mk (λh=>?_) (λh=>?_)
 rotate_left
 ·refine⟨_,_,.refl,λ_ _ h=>h,.inl ⟨?_,rfl,rfl⟩⟩;have bB:¬ (ln:Int)=(g.n:Int):=by simpa using h
  have:decide (a4.length=g.n)=false:=dk (by omega);simp[lU,this]
 have JN:ln=g.n:=by
  have:(ln:Int)=(g.n:Int):=by simpa using h
  omega
 have gU:decide (a4.length=g.n)=true:=eD (by omega);refine aU.mk [] M0 _ (.refl _) (xk bA.c aq) ?_;rintro v bR M1 -⟨rfl,rfl,rfl⟩;refine aB.mk (λh=>?_) (λh=>?_)
 ·refine⟨_,_,.refl,λ_ _ h=>h,.inl ⟨?_,rfl,rfl⟩⟩;have:right t=false:=by simpa using h
  simp[lU,this]
 have ag:right t=true:=by simpa using h
 refine aU.mk [] M0 _ (.refl _) (VR ao) ?_;rintro v dG ew -⟨ed,rfl,hH,rfl,Dq⟩;have pR:=aq.mono ed;refine bu.inv (ι:=Nat) (λx=>{ a4:=[(1,.val (.slice p0 ln lc)),(3,.ref 3 0),(5,.ref 5 0),(8,.val (.map (some hH))),(27,.val (.slice t.a t.n t.c)),(28,.val (.int .i64 t.n)),(29,.val (.int .i64 x))],cl:=[(3,[.slice g.a g.n g.c]),(5,t.cells)],br:=dG,bO:=M0 }) (λx=>x<=t.n/\∀ d∈t.aa.take x,(!decide (d.k=3)||(dP d.t (a' g.ds)).isSome)=true) (λx=>t.n-x) ?_ ?_
 ·exact⟨0,⟨bQ _,λd al=>by simp at al⟩,.refl,np,.cons rfl (.cons rfl .nil)⟩
 rintro i⟨hi,jh⟩;refine aB.mk (λh=>?_) (λh=>?_)
 ·have ax:i<t.n:=by have:(i:Int)<(t.n:Int):=cq h;omega
  have bo:i<t.aa.length:=by omega
  obtain⟨ad,ba,a3⟩:=pR.aJ.row aH.bI ax bo;have j8:t.aa.take (i+1)=t.aa.take i++[t.aa[i]]:=er bo;have e2:=bJ bo;have next:(!decide (t.aa[i].k=3)||(dP t.aa[i].t (a' g.ds)).isSome)=true->∀ d∈t.aa.take (i+1),(!decide (d.k=3)||(dP d.t (a' g.ds)).isSome)=true:=λh d al=>by
   rw[j8]at al;rcases dm.1 al with al | al;·exact jh d al
   ·simp only[fb]at al;rw[al];exact h
  refine aW.mk ad i ba rfl ax ?_;refine aE.mk _ (a3 _) ?_;refine aB.mk (λak=>?_) (λak=>?_);·refine aQ.mk _ (bl (i:=i) (by omega)) ?_;refine⟨i+1,⟨⟨by omega,next ?_⟩,by omega⟩,.refl,np,.cons rfl (.cons rfl .nil)⟩;rw[show(!decide (t.aa[i].k=3))=true from ak];rfl
  ·refine bk.VQ aI rfl (by simp) rfl rfl rfl rfl (λw=>FK w) (l:=a' g.ds) (g:=hH) rfl rfl (.inl Dq) ?_;refine aB.mk (λaL=>?_) (λaL=>?_)
   ·refine⟨_,_,.refl,ed,.inl ⟨?_,rfl,rfl⟩⟩;have bm:lT (a' g.ds) t.aa=false:=by
     rw[lT,Fu];refine⟨_,e2,?_⟩;have b5:(dP t.aa[i].t (a' g.ds)).isSome=false:=by simpa using aL
     rw[b5,show(!decide (t.aa[i].k=3))=false from ak];simp
    simp[lU,bm]
   ·refine aQ.mk _ (bl (i:=i) (by omega)) ?_;refine⟨i+1,⟨⟨by omega,next ?_⟩,by omega⟩,.refl,np,.cons rfl (.cons rfl .nil)⟩;have b5:(dP t.aa[i].t (a' g.ds)).isSome=true:=by simpa using aL
    rw[b5];simp
 have bS:i=t.n:=by have:¬ (i:Int)<(t.n:Int):=cR h;omega
 rw[dX (by omega)]at jh;have cm:lT (a' g.ds) t.aa=true:=et.2 jh;have Dr:=V5 cm;rw[cK,<-JN]at Dr;refine aU.mk M0 [] _ perm_nil (VU pR ag Dq (im.mono ed) Dr) ?_;rintro v gJ qE -⟨rfl,b,rfl,rfl⟩;rw[db];exact⟨_,_,.refl,ed,.inr ⟨_,b,by rw[lU,gU,ag,cm];rfl,rfl,rfl⟩⟩
def vZ(g:bP)(a4:List aM)(t:bx):Option aM:=(lU g a4 t).map λr=>r.getD t.root.toNat bw
def agQ{a4:List aM}{r:List aM}(h:lU g a4 t=some r):right t=true/\r.length=t.aa.length:=by
 unfold lU at h;cases ah:decide (a4.length=g.n)&&(right t&&lT (a' g.ds) t.aa)with
 |false=>rw[ah]at h;cases h| true=>rw[ah]at h;simp only[bt,jY]at h;simp only[b']at ah;refine⟨ah.2.1,?_⟩;rw[<-h,Bd];simp
structure ur(g:bP):Prop where
 n:g.ds.length=g.n
 right:∀ d∈g.ds,right d.t=true
 named:∀ d∈g.ds,lT (a' g.ds) d.t.aa=true
def v0(az:g.ds.length=g.n)(h:cn deb g=0):ur g:=by refine⟨az,λd al=>?_,agN h⟩;have:=et.1 (agO h) d al;simp only[normal,b']at this;exact this.2.1
def ofM(b6 hH fS dT b1:Nat)(g:bP)(l:List aM):List aD:=[⟨b6,.cells #[.map (some hH)] 121 (0,0)⟩,⟨fS,.cells #[.slice (some ⟨dT,0,none⟩) g.n g.n] 110 (0,0)⟩,ft dT l,⟨b1,.cells #[.slice g.a g.n g.c] 24 (0,0)⟩]
def Gm(a b c d:α):[a,b,c,d].Perm ([c]++[a,b,d]):=o3 (l₁:=[a,b]) (l₂:=[d])
def agR(x a b c d:α):[x,a,b,c,d].Perm ([c]++[x,a,b,d]):=o3 (l₁:=[x,a,b]) (l₂:=[d])
def JO{b:Nat}{f:aM}(aV:(⟨b,.cells f.cells.toArray 146 (0,0)⟩:aD)∈M):bq I M (⟨b,0,none⟩:Addr) 3 f.cells:=⟨rfl,_,_,_,.inr ⟨_,aV,rfl,rfl⟩,rfl,rfl⟩
def V7{l:List aM}{i:Nat}(hi:i<l.length){x:aM}:Nat.ble (0+i*3+x.cells.length) (l.flatMap aM.cells).length=true:=by rw[FW,s6,aM.bI];omega
def cu.kU{a:Addr}{K:List aD->Prop}(pre post:List aD)(cs:Array Value)(T:Nat)(aV:M=pre++⟨a.block,.cells cs T (0,0)⟩::post)(ar:a.spot=none)(ah:Nat.ble (a.off+vs.length) cs.size=true)(U:gh vs=true)(cs':List Value)(he:bG cs.toList a.off vs=cs')(k:K (pre++⟨a.block,.cells cs'.toArray T (0,0)⟩::post)):cu M a vs K:=
 ⟨pre,post,cs,T,aV,ar,b9 ah,U,by rw[he];exact k⟩
set_option maxRecDepth 100000 in
def agS(ao:g.ok I)(hm:ur g){b6 fS dT b1:Nat}(Dq:I hH=some (i' (a' g.ds))){e9:List aM}(Ct:nE g.ds e9) :
  Spec Tryz.prog 98 [ptr b1,ptr b6,ptr fS] I (ofM b6 hH fS dT b1 g e9) λv I' M'=>v=.bool (decide (m9 (a' g.ds) 0 g.ds e9≠e9))/\I'=I/\M'=ofM b6 hH fS dT b1 g (m9 (a' g.ds) 0 g.ds e9):=by
 refine bn [] aI Tryz.func98 rfl rfl rfl ?_;intro B av;have cK:=ao.n;have gk:=ao.aJ.cap;have agT:∀ {M:List aD},(⟨b1,.cells #[.slice g.a g.n g.c] 24 (0,0)⟩:aD)∈M->bq I M ((⟨b1,0,none⟩:Addr).add 0) 1 [.slice g.a g.n g.c]:=λaV=>dj (cs:=[.slice g.a g.n g.c]) (k:=0) (n:=1) aV (by simp);have agU:∀ {M:List aD},(⟨b6,.cells #[.map (some hH)] 121 (0,0)⟩:aD)∈M->bq I M (⟨b6,0,none⟩:Addr) 1 [.map (some hH)]:=λaV=>⟨rfl,_,_,_,.inr ⟨_,aV,rfl,rfl⟩,rfl,rfl⟩;have Gn:∀ {M:List aD},(⟨fS,.cells #[.slice (some ⟨dT,0,none⟩) g.n g.n] 110 (0,0)⟩:aD)∈M->bq I M (⟨fS,0,none⟩:Addr) 1 [.slice (some ⟨dT,0,none⟩) g.n g.n]:=λaV=>⟨rfl,_,_,_,.inr ⟨_,aV,rfl,rfl⟩,rfl,rfl⟩;refine aE.mk _ (agT (by simp[ofM])) ?_;refine bu.inv (ι:=Nat×List aM) (λx=>{ a4:=[(0,.val (ptr b1)),(1,.val (ptr b6)),(2,.val (ptr fS)),(4,.val (.bool (decide (x.2≠e9)))),(9,.val (.slice g.a g.n g.c)),(10,.val (.int .i64 g.n)),(11,.val (.int .i64 x.1))],br:=I,bO:=ofM b6 hH fS dT b1 g x.2 }) (λx=>x.1<=g.n/\nE g.ds x.2/\ep e9 x.2/\m9 (a' g.ds) 0 g.ds e9=m9 (a' g.ds) x.1 (g.ds.drop x.1) x.2) (λx=>g.n-x.1) ?_ ?_
 ·refine⟨(0,e9),⟨bQ _,Ct,ep.refl _,rfl⟩,.refl,.cons .refl (.cons .refl (.cons .refl (.cons ?_ (cU)))),.nil⟩;exact Dl (by simp)
 rintro⟨i,l⟩⟨hi,ja,hle,dK⟩;simp only at hi ja hle dK;have iT:=ja.len;refine aB.mk (λh=>?_) (λh=>?_)
 rotate_left
 ·have bS:i=g.n:=by have:¬ (i:Int)<(g.n:Int):=cR h;omega
  rw[iW (by omega),m9]at dK;exact⟨_,_,.refl,by rw[dK],rfl,by rw[dK]⟩
 have ax:i<g.n:=by have:(i:Int)<(g.n:Int):=cq h;omega
 have bo:i<g.ds.length:=by omega
 have cd:i<l.length:=by omega
 obtain⟨ad,ba,a3⟩:=ao.aJ.row aK.bI ax bo;have cN:=bJ bo;have al:=ao.ds _ cN;have ag:=hm.right _ cN;have Dr:=V5 (hm.named _ cN);rw[show g.ds.length=l.length from iT.symm]at Dr;obtain⟨s3,vb⟩:=ja.step bo;have xK:m9 (a' g.ds) 0 g.ds e9=m9 (a' g.ds) (i+1) (g.ds.drop (i+1)) (l.set i (gl (a' g.ds) l g.ds[i])):=by rw[dK,dv bo,m9]
 have Gp:gl (a' g.ds) l g.ds[i]=(dq (a' g.ds) l g.ds[i].t.aa []).getD g.ds[i].t.root.toNat bw:=rfl;generalize gl (a' g.ds) l g.ds[i]=f at s3 vb xK Gp;generalize g.ds[i]=d at a3 al ag Dr Gp;have rI:=lK ag;have g7:=al.t.n;have kI:=Bd (a' g.ds) l d.t.aa [];simp only[dI,cM]at kI;have dp:d.t.root.toNat<(dq (a' g.ds) l d.t.aa []).length:=by omega
 have vc:(dq (a' g.ds) l d.t.aa [])[d.t.root.toNat]=f:=by rw[Gp];simp[bV,dp]
 have N8:=VU (M0:=[ft dT l]) (ln:=l.length) (lc:=g.n) al.t ag Dq (JM (I:=I) (fb.2 rfl)) Dr;rw[show l.length=g.n by omega]at N8;refine aW.mk ad i ba rfl ax ?_;refine aE.mk _ (a3 _) ?_;have Gq:l.getD i bw=l[i]:=by simp[bV,cd]
 have more:(!decide (f=l[i]))=true->decide (l.set i f≠e9)=true:=λh=>by
  have bB:f≠l[i]:=by simpa using h
  rw[fk];intro e;have a7:l.set i f=l:=by refine ep.antisymm ?_ vb;rw[e];exact hle
  have ak:=Gk l i i f cd;rw[a7,cw rfl,Gq]at ak;exact bB ak.symm
 have same:(!decide (f=l[i]))=false->l.set i f=l:=λh=>by
  have he:f=l[i]:=by simpa using h
  rw[he];exact List.set_getElem_self cd
 refine cr.draw aI rfl rfl rfl ?_;refine aE.mk _ (agU (by simp[ofM])) ?_;refine aE.mk _ (Gn (by simp[ofM])) ?_;refine⟨?_,?_⟩
 ·refine e7.mT [ft dT l] [⟨b6,.cells #[.map (some hH)] 121 (0,0)⟩,⟨fS,.cells #[.slice (some ⟨dT,0,none⟩) g.n g.n] 110 (0,0)⟩,⟨b1,.cells #[.slice g.a g.n g.c] 24 (0,0)⟩] _ (Gm ..) N8 (λv I' M' h x ae=>by obtain⟨-,b,-,rfl⟩:=h;exact .tail _ ae) ?_;rintro v dG ew -⟨rfl,b,rfl,rfl⟩;refine aW.mk ⟨b,0,none⟩ d.t.root.toNat rfl (by omega) (by omega) ?_;refine aE.mk _ (Dn (.head _) dp) ?_;rw[vc];refine bL.mk λb7 Gr N9=>?_;refine cu.kU [] [ft b (dq (a' g.ds) l d.t.aa []),ft dT l,⟨b6,.cells #[.map (some hH)] 121 (0,0)⟩,⟨fS,.cells #[.slice (some ⟨dT,0,none⟩) g.n g.n] 110 (0,0)⟩,⟨b1,.cells #[.slice g.a g.n g.c] 24 (0,0)⟩] _ _ rfl rfl rfl rfl f.cells rfl ?_;refine cr.draw aI rfl rfl rfl ?_;refine aE.mk f.cells (JO (by simp)) ?_;refine aE.mk _ (Gn (by simp)) ?_;refine aW.mk ⟨dT,0,none⟩ i rfl rfl ax ?_;refine aE.mk _ (Dn (by simp) cd) ?_;refine cx.VJ (p:=f) (q:=l[i]) ?_;refine aB.mk (λh=>?_) (λh=>?_)
  ·refine aE.mk _ (Gn (by simp)) ?_;refine aE.mk f.cells (JO (by simp)) ?_;refine aW.mk ⟨dT,0,none⟩ i rfl rfl ax ?_;refine cu.kN [(⟨b7,.cells f.cells.toArray 146 (0,0)⟩:aD),ft b (dq (a' g.ds) l d.t.aa [])] [⟨b6,.cells #[.map (some hH)] 121 (0,0)⟩,⟨fS,.cells #[.slice (some ⟨dT,0,none⟩) g.n g.n] 110 (0,0)⟩,⟨b1,.cells #[.slice g.a g.n g.c] 24 (0,0)⟩] (l.flatMap aM.cells) _ rfl (V7 cd) rfl ((l.set i f).flatMap aM.cells) (by rw[cM];exact JG l i cd f) ?_;refine aQ.mk _ (bl (i:=i) (by omega)) ?_;refine⟨(i+1,l.set i f),⟨⟨by simp only;omega,s3,hle.trans vb,xK⟩,by simp only;omega⟩,.sub (M1:=[ft dT (l.set i f),⟨b6,.cells #[.map (some hH)] 121 (0,0)⟩,⟨fS,.cells #[.slice (some ⟨dT,0,none⟩) g.n g.n] 110 (0,0)⟩,⟨b1,.cells #[.slice g.a g.n g.c] 24 (0,0)⟩]) (by exact .cons _ (.cons _ (.refl _))) (.perm (Gm ..).symm .refl),.cons .refl (.cons .refl (.cons .refl (.cons (Dl (more h).symm) (cU)))),.nil⟩
  ·have he:l.set i f=l:=same h;rw[he]at xK;refine aQ.mk _ (bl (i:=i) (by omega)) ?_;exact⟨(i+1,l),⟨⟨by simp only;omega,ja,hle,xK⟩,by simp only;omega⟩,.sub (M1:=[ft dT l,⟨b6,.cells #[.map (some hH)] 121 (0,0)⟩,⟨fS,.cells #[.slice (some ⟨dT,0,none⟩) g.n g.n] 110 (0,0)⟩,⟨b1,.cells #[.slice g.a g.n g.c] 24 (0,0)⟩]) (by exact .cons _ (.cons _ (.refl _))) (.perm (Gm ..).symm .refl),np,.nil⟩
 ·refine bL.mk λb7 Gr N9=>?_;refine e7.mT [ft dT l] [(⟨b7,.cells bw.cells.toArray 146 (0,0)⟩:aD),⟨b6,.cells #[.map (some hH)] 121 (0,0)⟩,⟨fS,.cells #[.slice (some ⟨dT,0,none⟩) g.n g.n] 110 (0,0)⟩,⟨b1,.cells #[.slice g.a g.n g.c] 24 (0,0)⟩] _ (agR ..) N8 (λv I' M' h x ae=>by obtain⟨-,b,-,rfl⟩:=h;exact .tail _ ae) ?_;rintro v dG ew -⟨rfl,b,rfl,rfl⟩;refine aW.mk ⟨b,0,none⟩ d.t.root.toNat rfl (by omega) (by omega) ?_;refine aE.mk _ (Dn (.head _) dp) ?_;rw[vc];refine cu.kU [ft b (dq (a' g.ds) l d.t.aa []),ft dT l] [⟨b6,.cells #[.map (some hH)] 121 (0,0)⟩,⟨fS,.cells #[.slice (some ⟨dT,0,none⟩) g.n g.n] 110 (0,0)⟩,⟨b1,.cells #[.slice g.a g.n g.c] 24 (0,0)⟩] _ _ rfl rfl rfl rfl f.cells rfl ?_;refine cr.draw aI rfl rfl rfl ?_;refine aE.mk f.cells (JO (by simp)) ?_;refine aE.mk _ (Gn (by simp)) ?_;refine aW.mk ⟨dT,0,none⟩ i rfl rfl ax ?_;refine aE.mk _ (Dn (by simp) cd) ?_;refine cx.VJ (p:=f) (q:=l[i]) ?_;refine aB.mk (λh=>?_) (λh=>?_)
  ·refine aE.mk _ (Gn (by simp)) ?_;refine aE.mk f.cells (JO (by simp)) ?_;refine aW.mk ⟨dT,0,none⟩ i rfl rfl ax ?_;refine cu.kN [ft b (dq (a' g.ds) l d.t.aa [])] [(⟨b7,.cells f.cells.toArray 146 (0,0)⟩:aD),⟨b6,.cells #[.map (some hH)] 121 (0,0)⟩,⟨fS,.cells #[.slice (some ⟨dT,0,none⟩) g.n g.n] 110 (0,0)⟩,⟨b1,.cells #[.slice g.a g.n g.c] 24 (0,0)⟩] (l.flatMap aM.cells) _ rfl (V7 cd) rfl ((l.set i f).flatMap aM.cells) (by rw[cM];exact JG l i cd f) ?_;refine aQ.mk _ (bl (i:=i) (by omega)) ?_;refine⟨(i+1,l.set i f),⟨⟨by simp only;omega,s3,hle.trans vb,xK⟩,by simp only;omega⟩,.sub (M1:=[ft dT (l.set i f),⟨b6,.cells #[.map (some hH)] 121 (0,0)⟩,⟨fS,.cells #[.slice (some ⟨dT,0,none⟩) g.n g.n] 110 (0,0)⟩,⟨b1,.cells #[.slice g.a g.n g.c] 24 (0,0)⟩]) (by exact .cons _ (.cons_cons _ (.cons _ (.refl _)))) (.perm (Gm ..).symm .refl),.cons .refl (.cons .refl (.cons .refl (.cons (Dl (more h).symm) (cU)))),.nil⟩
  ·have he:l.set i f=l:=same h;rw[he]at xK;refine aQ.mk _ (bl (i:=i) (by omega)) ?_;exact⟨(i+1,l),⟨⟨by simp only;omega,ja,hle,xK⟩,by simp only;omega⟩,.sub (M1:=[ft dT l,⟨b6,.cells #[.map (some hH)] 121 (0,0)⟩,⟨fS,.cells #[.slice (some ⟨dT,0,none⟩) g.n g.n] 110 (0,0)⟩,⟨b1,.cells #[.slice g.a g.n g.c] 24 (0,0)⟩]) (by exact .cons _ (.cons_cons _ (.cons _ (.refl _)))) (.perm (Gm ..).symm .refl),np,.nil⟩
def agV(bA:fr I deb)(ao:g.ok I):Spec Tryz.prog 67 [g.val] I [] λv I' M'=>(∀ b o,I b=some o->I' b=some o) /\
  ((cn deb g≠0/\v=.tuple #[.slice none 0 0,.int .i64 (cn deb g)]/\M'=[])\/(cn deb g=0/\∃ b l,v=.tuple #[.slice (some ⟨b,0,none⟩) g.n g.n,.int .i64 0]/\M'=[ft b l]/\h7 g.ds l)):=by
 refine bn [1,5,6] aI Tryz.func67 rfl rfl rfl ?_;intro B av;have cK:=ao.n;have gk:=ao.aJ.cap;refine bL.mk λb1 jG F3=>?_;refine aE.mk [.slice g.a g.n g.c] ⟨rfl,_,_,_,.inr ⟨_,.head _,rfl,rfl⟩,rfl,rfl⟩ ?_;refine aU.mk [] [⟨b1,.cells #[.slice g.a g.n g.c] 24 (0,0)⟩] _ (.refl _) (Jf bA ao) ?_;rintro v bR M1 -⟨rfl,bK,rfl⟩;refine aB.mk (λh=>?_) (λh=>?_)
 ·have hm:cn deb g≠0:=by simpa using h
  exact⟨_,_,.sub (cW _) .refl,bK,.inl ⟨hm,rfl,rfl⟩⟩
 have hm:cn deb g=0:=by simpa using h
 have aV:=v0 cK hm;refine aE.mk _ (dj (b:=b1) (cs:=[.slice g.a g.n g.c]) (k:=0) (n:=1) (T:=24) (.head _) (by simp)) ?_;refine mO.mk g.n g.n rfl rfl (b2 _) (by show 3*g.n<=_;omega) (by omega) ?_;refine bL.mk λdT nt aqV=>?_;have e:rowOf bw.cells (g.n*3)=(List.replicate g.ds.length bw).flatMap aM.cells:=by rw[cK];exact N2 g.n
 refine bL.mk λfS Jg Jh=>?_;refine cu.kU [] _ _ _ rfl rfl rfl rfl [.slice (some ⟨dT,0,none⟩) g.n g.n] rfl ?_;refine aE.mk [.slice g.a g.n g.c] ⟨rfl,_,_,_,.inr ⟨_,.tail _ (.tail _ (.head _)),rfl,rfl⟩,rfl,rfl⟩ ?_;refine aU.mk [] _ _ (.refl _) (VR (ao.mono bK)) ?_;rintro v dG ew -⟨ed,rfl,hH,rfl,Dq⟩;refine bL.mk λb6 FE Nj=>?_;refine cu.kU [] _ _ _ rfl rfl rfl rfl [.map (some hH)] rfl ?_;refine bu.inv (ι:=List aM) (λl=>{ a4:=[(5,.val (ptr fS)),(7,.val (.func (.func 98) #[] #[ptr b1,ptr b6,ptr fS]))],br:=dG,bO:=ofM b6 hH fS dT b1 g l }) (nE g.ds) uq ?_ ?_
 ·refine⟨List.replicate g.ds.length bw,.start g.ds,?_,ih,.nil⟩;simp only[ofM,ft];rw[<-e];exact .refl
 intro l ay;refine aU.mk (ofM b6 hH fS dT b1 g l) [] _ (.refl _) (agS ((ao.mono bK).mono ed) aV Dq ay) ?_;rintro v gJ qE -⟨rfl,rfl,rfl⟩;obtain⟨ha,gf,-⟩:=N7 g.ds [] rfl ay;refine aB.mk (λh=>?_) (λh=>?_)
 ·exact⟨_,⟨ha,V2 gf (cq h)⟩,.refl,ih,.nil⟩
 ·have au:m9 (a' g.ds) 0 g.ds l=l:=by have:=cR h;exact Classical.not_not.1 this
  rw[au];refine aE.mk [.slice (some ⟨dT,0,none⟩) g.n g.n] ⟨rfl,_,_,_,.inr ⟨_,.tail _ (.head _),rfl,rfl⟩,rfl,rfl⟩ ?_;refine⟨gJ,[ft dT l],.sub (.cons _ (.cons _ (.cons_cons _ (cW _)))) .refl,λb o h=>ed _ _ (bK _ _ h),.inr ⟨hm,dT,l,rfl,rfl,ay.done au⟩⟩
def bx.a1(t:bx):bx:=⟨t.aa.map aH.a1,none,t.n,0,t.root⟩
def aK.a1(d:aK):aK:=⟨d.name,d.t.a1⟩
def bP.a1(g:bP):bP:=⟨g.ds.map aK.a1,none,g.n,0⟩
def V8:∀ (ds:List aH) (i:Nat) (s:List Bool),gS i (ds.map aH.a1) s=gS i ds s
 |[],i,s=>rfl| d::ds,i,s=>by have h:∀ b3,gS (i+1) (ds.map aH.a1) b3=gS (i+1) ds b3:=λb3=>V8 ds (i+1) b3;rw[cZ,gS,gS];simp only[h];rfl
def zc(t:bx):right t.a1=right t:=by unfold right bx.a1;simp only[V8,cT]
def V9(aa:List aH)(k:Int):fD (aa.map aH.a1) k=fD aa k:=by unfold fD;rw[sS];rfl
def V'(aa:List aH)(kind:Int):∀ ks,kQ (aa.map aH.a1) kind ks=kQ aa kind ks
 |[]=>rfl| k::ks=>by rw[kQ,kQ,V9,V' aa kind ks]
def Wa(aa:List aH):∀ ds:List aH,kR (aa.map aH.a1) (ds.map aH.a1)=kR aa ds
 |[]=>rfl| d::ds=>by have h:=V' aa d.k d.kids;rw[cZ,kR,kR,Wa aa ds];show(bif !decide (d.k=4) && !decide (d.k=5)then kR aa ds else bif kQ (aa.map aH.a1) d.k d.kids then kR aa ds else false)=_;rw[h]
def agW(t:bx):normal t.a1=normal t:=by unfold normal;rw[zc];congr 1;exact Wa t.aa t.aa
def Wb:∀ (ds:List aH) (i:Nat) (d':List Int),qK i (ds.map aH.a1) d'=qK i ds d'
 |[],i,d'=>rfl| d::ds,i,d'=>by rw[cZ,qK,qK,Wb ds];rfl
def agX(t:bx):depth t.a1=depth t:=by unfold depth;rw[zc];simp only[bx.a1,Wb,cT]
def agY(t:bx):hD t.a1=hD t:=by unfold hD;rw[zc,agX];rfl
def JP{α:Type}{z:α}{f g:aH->(Int->α)->α}(h:∀ d q,f d.a1 q=g d q):∀ (ds:List aH) (acc:List α),pM z f (ds.map aH.a1) acc=pM z g ds acc
 |[],acc=>rfl| d::ds,acc=>by rw[cZ,pM,pM,h,JP h ds]
def agZ(deb:List Int)(aa:List aH)(k:Int):fX deb (aa.map aH.a1) k=fX deb aa k:=by unfold fX oU;rw[JP (g:=xq deb aa) (λd q=>?_)];show kp deb d++(n' (oa d) (λk=>paren (fI d.k (fD (aa.map aH.a1) k)) (q k)) false d.kids++jN d)=_;simp only[V9];rfl
def ag0(deb:List Int)(t:bx):ij deb t.a1=ij deb t:=by unfold ij;rw[zc];have:fX deb t.a1.aa t.a1.root=fX deb t.aa t.root:=agZ deb t.aa t.root;rw[this]
def ag1(deb:List Int)(d:aK):lP deb d.a1=lP deb d:=by unfold lP;have:ij deb d.a1.t=ij deb d.t:=ag0 deb d.t;rw[this];rfl
def Wc(deb:List Int):∀ (ds:List aK) (acc:List UInt8),ik deb (ds.map aK.a1) acc=ik deb ds acc
 |[],acc=>rfl| d::ds,acc=>by rw[cZ,ik,ik,ag1,Wc deb ds]
def ag2(g:bP):pT g.a1=pT g:=by unfold pT bP.a1;rw[sS];congr 1;refine rC λd _=>?_;show lQ d.t.a1=lQ d.t;unfold lQ;rw[zc];rfl
def Wd{q:aK->Bool}(h:∀ d,q d.a1=q d)(ds:List aK):(ds.map aK.a1).all q=ds.all q:=by rw[List.all_map];congr 1;funext d;exact h d
def ag3(deb:List Int)(g:bP):iZ deb g.a1=iZ deb g:=by unfold iZ;rw[ag2];have U:(g.a1.ds.all λd=>hD d.t)=g.ds.all λd=>hD d.t:=Wd (λd=>agY d.t) g.ds;have ab:ik deb g.a1.ds []=ik deb g.ds []:=Wc deb g.ds [];rw[U,ab];rfl
def ag4(ds:List aK):mv (ds.map aK.a1)=mv ds:=Wd (q:=λd=>h0 d.name&&normal d.t) (λd=>by
 show(h0 d.name&&normal d.t.a1)=_;rw[agW]) ds
def We:∀ (ds:List aK) (acc:List (ByteArray×Int)) (i:Nat),lg acc i (ds.map aK.a1)=lg acc i ds
 |[],acc,i=>rfl| d::ds,acc,i=>by rw[cZ,lg,lg];show(bif (dP d.name acc).isSome then none else lg (acc++[(d.name,(i:Int))]) (i+1) (ds.map aK.a1))=_;rw[We ds]
def Wf:∀ (ds:List aK) (i:Nat),pU i (ds.map aK.a1)=(pU i ds).map λp=>(p.1,p.2.a1)
 |[],i=>rfl| d::ds,i=>by rw[cZ,pU,pU,Wf ds,eL,sS];show(d.t.aa.map aH.a1).map (λn=>(i,n))++_=_;rw[sS];rfl
def ag5(acc:List (ByteArray×Int))(ds:List aK):qO acc (ds.map aK.a1)=qO acc ds:=by unfold qO;rw[Wf,List.all_map];rfl
def Ds(deb:List Int)(g:bP):cn deb g.a1=cn deb g:=by unfold cn;rw[ag3];have U:mv g.a1.ds=mv g.ds:=ag4 g.ds;have ab:lg [] 0 g.a1.ds=lg [] 0 g.ds:=We g.ds [] 0;have ak:∀ acc,qO acc g.a1.ds=qO acc g.ds:=λacc=>ag5 acc g.ds;rw[U,ab];simp only[ak];rfl
def Wg(aa:List aH)(j:Nat):(nodeAt (aa.map aH.a1) j).a1=(nodeAt aa j).a1:=by
 unfold nodeAt;simp only[bV,sr];cases aa[j]?<;>rfl
def Wh(aa:List aH)(j:Nat):(nodeAt (aa.map aH.a1) j).kids=(nodeAt aa j).kids:=by have h:=congrArg aH.kids (Wg aa j);exact h
def Wi(aa:List aH):∀ (f:Nat) (todo b:List Int),rZ (aa.map aH.a1) f todo b=rZ aa f todo b
 |0,todo,b=>rfl
 |f+1,todo,b=>by
  unfold rZ;cases todo.getLast? with
  |none=>rfl| some n=>simp only;rw[Wh,Wi aa f]
def Wj(d:aH)(l:List Int):d.a1.m6 l=d.m6 l:=rfl
def ag6(aa:List aH):A8 (aa.map aH.a1)=A8 aa:=by funext b4 b;unfold A8;rw[Wh,<-Wj (nodeAt (aa.map aH.a1) b.toNat),Wg,Wj]
def Wk(aa:List aH)(node:Int):mz (aa.map aH.a1) node=mz aa node:=by unfold mz xG;rw[ag6,Wi,cT]
def Wl(pl:List (ByteArray×Int))(a4:List aM):∀ (ds:List aH) (acc:List aM),dq pl a4 (ds.map aH.a1) acc=dq pl a4 ds acc
 |[],acc=>rfl| d::ds,acc=>by rw[cZ,dq,dq,Wl pl a4 ds];rfl
def Wm:∀ (ds:List aK) (acc:List (ByteArray×Int)) (i:Nat),qX acc i (ds.map aK.a1)=qX acc i ds
 |[],acc,i=>rfl| d::ds,acc,i=>by rw[cZ,qX,qX,Wm ds];rfl
def Dt(ds:List aK):a' (ds.map aK.a1)=a' ds:=Wm ds [] 0
def JQ(pl:List (ByteArray×Int))(a4:List aM)(d:aK):gl pl a4 d.a1=gl pl a4 d:=by unfold gl;have:dq pl a4 d.a1.t.aa []=dq pl a4 d.t.aa []:=Wl pl a4 d.t.aa [];rw[this];rfl
def ag7{ds:List aK}{l:List aM}(h:h7 ds l):h7 (ds.map aK.a1) l:=by
 refine⟨by rw[h.len,cT],λi hi=>?_,λm hm aC=>?_⟩
 ·have ck:i<ds.length:=by simpa using hi
  rw[Dt,oP,JQ];exact h.fix i ck
 ·refine h.least m (by rw[hm,cT]) λi hi=>?_;have:=aC i (by simpa using hi);rwa [Dt,oP,JQ]at this
def uu(l:List aH):bx:=⟨l,none,l.length,0,(l.length:Int)-1⟩
structure JR(I:aT)(t:bx)(l:List aH):Prop where
 ok:t.ok I
 a1:t.aa.map aH.a1=l
 root:t.root=(l.length:Int)-1
def JR.len{l:List aH}(h:JR I t l):t.n=l.length:=by rw[<-h.ok.n,<-h.a1,cT]
def JR.leaf(aq:t.ok I)(U:t.aa=[d])(ab:t.root=0)(al:d.a1=d):JR I t [d]:=⟨aq,by rw[U];simp[al],by rw[ab];rfl⟩
def ag8(l:List aH):List aH:=mz l ((l.length:Int)-1)
def s7(aa:List aH):List Int:=aa.flatMap (·.kids)
def p1(l:List Int):Prop:=l.Pairwise (·≠·)
def Du(s:List Bool)(l:List Int):Prop:=∀ j,s.getD j false=true ↔ ((j:Int)∈l/\j<s.length)
def Wn{i:Nat}:∀ {ks seen:List Int} {s:List Bool},i<=s.length->Du s seen->p1 seen -> ((∃ b3,iA i ks s=some b3) ↔ ((∀ k∈ks,0<=k/\k<i)/\p1 (seen++ks)))/\∀ b3,iA i ks s=some b3->b3.length=s.length/\Du b3 (seen++ks)
 |[],seen,s,hi,hm,al=>by refine⟨⟨λ_=>⟨λk af=>by(cases af),by simpa using al⟩,λ_=>⟨s,rfl⟩⟩,λb3 h=>?_⟩;simp only[iA,jY]at h;subst h;exact⟨rfl,by simpa using hm⟩
 |k::ks,seen,s,hi,hm,al=>by
  unfold iA;cases ah:decide (k<0)||(decide ((i:Int)<=k)||s.getD k.toNat false)with
  |true=>
   refine⟨⟨λ⟨b3,h⟩=>(by cases h),λ⟨U,ab⟩=>?_⟩,λb3 h=>by cases h⟩;exfalso;have ak:=U k (.head _);simp only[j0,fk]at ah;rcases ah with ah | ah | ah;·omega
   ·omega
   ·have:=(hm _).1 ah;rw[yA ak.1]at this;exact(Jw.1 ab).2.2 k this.1 k (.head _) rfl
  |false=>
   simp only[qB,rA]at ah;obtain⟨b1,cc,gR⟩:=ah;have af:k.toNat<s.length:=by omega
   have hT:k ∉ seen:=λh=>by have:=(hm k.toNat).2 ⟨by rw[yA (by omega)];exact h,af⟩;rw[gR]at this;cases this
   have mV:Du (s.set k.toNat true) (seen++[k]):=λj=>by
    have:=hm j;simp only[bV,iz,m1,dm,fb]at this |-;by_cases e:k.toNat=j;·subst e;rw[cw rfl,cw af];simp only[je,true_iff];exact⟨.inr (by omega),af⟩
    ·rw[cB e,this];constructor
     ·rintro⟨U,ab⟩;exact⟨.inl U,ab⟩
     ·rintro⟨U | U,ab⟩
      ·exact⟨U,ab⟩
      ·omega
   have ie:p1 (seen++[k]):=Jw.2 ⟨al,by simp,λa aX b ah e=>by
    simp only[fb]at ah;subst ah;subst e;exact hT aX⟩
   have a8:=Wn (i:=i) (ks:=ks) (seen:=seen++[k]) (s:=s.set k.toNat true) (by simpa using hi) mV ie;simp only[bz];rw[fx,Db]at a8;refine⟨a8.1.trans ⟨λ⟨U,ab⟩=>⟨λx ae=>?_,ab⟩,λ⟨U,ab⟩=>⟨λx ae=>U x (.tail _ ae),ab⟩⟩,λb3 h=>?_⟩
   ·rcases ea.1 ae with rfl | ae
    ·omega
    ·exact U x ae
   ·have:=a8.2 b3 h;simpa using this
def Wo:∀ {ds:List aH} {i:Nat} {seen:List Int} {s:List Bool},i+ds.length<=s.length->Du s seen->p1 seen -> ((∃ b3,gS i ds s=some b3) ↔ ((∀ j (h:j<ds.length),fits ds[j] ds[j].kids.length=true/\∀ k∈ds[j].kids,0<=k/\k<i+j)/\p1 (seen++s7 ds)))/\∀ b3,gS i ds s=some b3->b3.length=s.length/\Du b3 (seen++s7 ds)
 |[],i,seen,s,hi,hm,al=>by refine⟨⟨λ_=>⟨λj aj=>by simp at aj,by simpa[s7]using al⟩,λ_=>⟨s,rfl⟩⟩,λb3 h=>?_⟩;simp only[gS,jY]at h;subst h;exact⟨rfl,by simpa[s7]using hm⟩
 |d::ds,i,seen,s,hi,hm,al=>by
  unfold gS;have af:=Wn (i:=i) (ks:=d.kids) (by simp at hi;omega) hm al;have eg:s7 (d::ds)=d.kids++s7 ds:=rfl;cases au:fits d d.kids.length with
  |false=>refine⟨⟨λ⟨b3,h⟩=>(by cases h),λ⟨U,ab⟩=>?_⟩,λb3 h=>by cases h⟩;have:=(U 0 (by simp)).1;simp only[vp]at this;rw[au]at this;cases this
  |true=>
   simp only[bt];cases a0:iA i d.kids s with
   |none=>
    refine⟨⟨λ⟨b3,h⟩=>(by cases h),λ⟨U,ab⟩=>?_⟩,λb3 h=>by cases h⟩;exfalso;have:∃ b3,iA i d.kids s=some b3:=af.1.2 ⟨λk af=>by
     have:=(U 0 (by simp)).2 k af;omega,by
     rw[eg,<-fx]at ab;exact(Jw.1 ab).1⟩
    obtain⟨b3,h⟩:=this;rw[a0]at h;cases h
   |some s1=>
    obtain⟨ag9,dw⟩:=af.2 s1 a0;obtain⟨ha,d1⟩:=af.1.1 ⟨s1,a0⟩;have a8:=Wo (ds:=ds) (i:=i+1) (seen:=seen++d.kids) (s:=s1) (by simp at hi;omega) dw d1;rw[fx,<-eg]at a8;simp only;refine⟨a8.1.trans ⟨λ⟨U,ab⟩=>⟨λj aj=>?_,ab⟩,λ⟨U,ab⟩=>⟨λj aj=>?_,ab⟩⟩,λb3 h=>?_⟩
    ·cases j with
     |zero=>exact⟨au,λk af=>by have:=ha k af;omega⟩| succ j=>have:=U j (by simpa using aj);refine⟨this.1,λk af=>?_⟩;have:=this.2 k af;omega
    ·have:=U (j+1) (by simpa using aj);refine⟨this.1,λk af=>?_⟩;have:=this.2 k af;omega
    ·have:=a8.2 b3 h;exact⟨this.1.trans ag9,this.2⟩
def aha(n:Nat):Du (List.replicate n false) []:=λj=>by
 by_cases h:j<n<;>simp[bV,NC,h]
structure xL(t:bx):Prop where
 root:0<=t.root/\t.root<t.aa.length
 fits:∀ j (h:j<t.aa.length),fits t.aa[j] t.aa[j].kids.length=true
 kids:∀ j (h:j<t.aa.length),∀ k∈t.aa[j].kids,0<=k/\k<j
 diff:p1 (s7 t.aa)
 all:∀ j:Nat,j<t.aa.length->((j:Int)∈s7 t.aa ↔ (j:Int)≠t.root)
def s8:right t=true ↔ xL t:=by
 have h:=Wo (ds:=t.aa) (i:=0) (seen:=[]) (s:=List.replicate t.aa.length false) (by simp) (aha _) (by simp[p1]);simp only[hO,cM,yz]at h;unfold right;constructor
 ·intro ag;simp only[b',fk]at ag;obtain⟨ha,gf,h6⟩:=ag;split at h6
  ·rename_i s ar;obtain⟨c5,c7⟩:=h.1.1 ⟨s,ar⟩;obtain⟨dw,m2⟩:=h.2 s ar;refine⟨⟨ha,gf⟩,λj aj=>(c5 j aj).1,λj aj k af=>(by have:=(c5 j aj).2 k af;omega),c7,λj aj=>?_⟩;have ah:(s.getD j false == decide (((0+j:Nat):Int)=t.root))=false:=by
    cases ah:(s.getD j false == decide (((0+j:Nat):Int)=t.root))with
    |false=>rfl| true=>have:=JA (by omega) ah;rw[this]at h6;cases h6
   rw[cM]at ah;have hm:=m2 j;constructor;·intro ae e;have:=hm.2 ⟨ae,by omega⟩;rw[this,eD e]at ah;cases ah
   ·intro bB;rw[dk bB]at ah;have:s.getD j false=true:=by
     revert ah;cases s.getD j false<;>simp
    exact(hm.1 this).1
  ·cases h6
 ·intro ag;obtain⟨s,ar⟩:=h.1.2 ⟨λj aj=>⟨ag.fits j aj,λk af=>by have:=ag.kids j aj k af;omega⟩,ag.diff⟩;obtain⟨dw,m2⟩:=h.2 s ar;rw[ar];simp only[b',fk];refine⟨ag.root.1,ag.root.2,NN λj aj=>?_⟩;rw[cM];have aX:=ag.all j (by omega);have hm:=m2 j;by_cases e:(j:Int)=t.root
  ·have au:s.getD j false=false:=by
    cases ah:s.getD j false with
    |false=>rfl| true=>exact absurd e (aX.1 (hm.1 ah).1)
   rw[au,eD e];rfl
  ·have:=hm.2 ⟨aX.2 e,by omega⟩;rw[this,dk e];rfl
def xL.node(ag:xL t){j:Nat}(aj:j<t.aa.length){k:Int}(af:k∈(nodeAt t.aa j).kids):0<=k/\k<j:=by rw[jO aj]at af;exact ag.kids j aj k af
def xL.two(ag:xL t){i j:Nat}(hi:i<t.aa.length)(aj:j<t.aa.length)(bB:i≠j){k:Int}(U:k∈(nodeAt t.aa i).kids)(ab:k∈(nodeAt t.aa j).kids):False:=by
 rw[jO hi]at U;rw[jO aj]at ab;have:=(Jv.1 ag.diff).2;rw[Vb]at this;rcases Nat.lt_or_gt_of_ne bB with h | h
 ·exact this i j hi aj h k U k ab rfl
 ·exact this j i aj hi h k ab k U rfl
def xL.Wp(ag:xL t){j:Nat}(aj:j<t.aa.length):p1 (nodeAt t.aa j).kids:=by rw[jO aj];exact(Jv.1 ag.diff).1 _ (bJ aj)
def Dv(aa:List aH):Nat->Int->List Int
 |0,_=>[]| f+1,n=>(nodeAt aa n.toNat).kids.flatMap (Dv aa f)++[n]
def iI(aa:List aH)(n:Int):List Int:=Dv aa (n.toNat+1) n
def N'{α β:Type}{f g:α->List β}:∀ {l:List α},(∀ x∈l,f x=g x)->l.flatMap f=l.flatMap g
 |[],_=>rfl| a::l,h=>by rw[mh,mh,h a (.head _),N' λx ae=>h x (.tail _ ae)]
section
variable{t:bx}(ag:xL t)
include ag
def ahb:∀ (f j:Nat),j<t.aa.length->j<f->Dv t.aa f j=iI t.aa j:=by
 intro f
 induction f using Nat.strongRecOn with
 |_ f a8=>
  intro j aj au
  match f,au,a8 with
  |f+1,au,a8=>unfold iI;rw[Dv,Dv];congr 1;refine N' λk af=>?_;obtain⟨av,U⟩:=ag.node aj af;obtain⟨k,rfl⟩:=en av;have aF:=a8 f (by omega) k (by omega) (by omega);have a7:=a8 j (by omega) k (by omega) (by omega);exact aF.trans a7.symm
def v3{j:Nat}(aj:j<t.aa.length):iI t.aa j=(nodeAt t.aa j).kids.flatMap (iI t.aa)++[(j:Int)]:=by unfold iI;rw[Dv];congr 1;refine N' λk af=>?_;obtain⟨av,U⟩:=ag.node aj af;obtain⟨k,rfl⟩:=en av;exact ahb ag _ k (by omega) (by omega)
def v5:∀ (j:Nat),j<t.aa.length->∀ x∈iI t.aa j,(0<=x/\x<=j)/\(x=j\/∃ y:Nat,(y:Int)∈iI t.aa j/\y<t.aa.length/\x∈(nodeAt t.aa y).kids):=by
 intro j
 induction j using Nat.strongRecOn with
 |_ j a8=>
  intro aj x ae;rw[v3 ag aj]at ae;rcases dm.1 ae with ae | ae
  ·obtain⟨k,af,ae⟩:=ud.1 ae;obtain⟨av,U⟩:=ag.node aj af;obtain⟨k,rfl⟩:=en av;obtain⟨b,c⟩:=a8 k (by omega) (by omega) x ae;refine⟨by omega,.inr ?_⟩;rcases c with rfl | ⟨y,aA,k9,ahc⟩
   ·exact⟨j,by rw[v3 ag aj];simp,aj,af⟩
   ·exact⟨y,by rw[v3 ag aj];exact dm.2 (.inl (ud.2 ⟨k,af,aA⟩)),k9,ahc⟩
  ·simp only[fb]at ae;subst ae;exact⟨by omega,.inl rfl⟩
def ahd{j:Nat}(aj:j<t.aa.length){a b:Nat}(aX:(a:Int)∈(nodeAt t.aa j).kids)(ah:(b:Int)∈(nodeAt t.aa j).kids)(bB:a≠b):∀ (m:Nat) (x:Int),x∈iI t.aa a->x∈iI t.aa b->t.aa.length-x.toNat<=m->False:=by
 have U:=ag.node aj aX;have ab:=ag.node aj ah;intro m
 induction m with
 |zero=>intro x Oa mr hm;have:=(v5 ag a (by omega) x Oa).1;omega
 |succ m a8=>
  intro x Oa mr hm;obtain⟨aqW,ahe⟩:=v5 ag a (by omega) x Oa;obtain⟨aqX,Wq⟩:=v5 ag b (by omega) x mr;rcases ahe with Ob | ⟨Oc,Wr,Od,Oe⟩
  ·rcases Wq with JS | ⟨Of,gA,Og,Oh⟩
   ·omega
   ·have:=(v5 ag b (by omega) Of gA).1;subst Ob;exact ag.two aj Og (by omega) aX Oh
  ·rcases Wq with JS | ⟨Of,gA,Og,Oh⟩
   ·have:=(v5 ag a (by omega) Oc Wr).1;subst JS;exact ag.two aj Od (by omega) ah Oe
   ·by_cases e:Oc=Of
    ·subst e;have:=ag.node Od Oe;exact a8 Oc Wr gA (by omega)
    ·exact ag.two Od Og e Oe Oh
def Oi:∀ (j:Nat),j<t.aa.length->p1 (iI t.aa j):=by
 intro j
 induction j using Nat.strongRecOn with
 |_ j a8=>
  intro aj;rw[v3 ag aj];have qY:=ag.Wp aj;refine Jw.2 ⟨Jv.2 ⟨λk af=>?_,?_⟩,by simp,λx ae y aA=>?_⟩;·obtain⟨av,U⟩:=ag.node aj af;obtain⟨k,rfl⟩:=en av;exact a8 k (by omega) (by omega)
  ·refine qY.imp_of_mem ?_;intro a b aX ah bB x ae y aA e;subst e;obtain⟨av,U⟩:=ag.node aj aX;obtain⟨ab,ak⟩:=ag.node aj ah;obtain⟨a,rfl⟩:=en av;obtain⟨b,rfl⟩:=en ab;exact ahd ag aj aX ah (by intro e;subst e;exact bB rfl) _ x ae aA (b2 _)
  ·simp only[fb]at aA;subst aA;obtain⟨k,af,ae⟩:=ud.1 ae;obtain⟨av,U⟩:=ag.node aj af;obtain⟨k,rfl⟩:=en av;have:=(v5 ag k (by omega) x ae).1;omega
def s9(aa:List aH)(l:List Int):Prop:=∀ i (h:i<l.length),∀ k∈(nodeAt aa (l[i]).toNat).kids,k∈l.take i
omit ag in
def s9.append{l m:List Int}(h:s9 aa l)(aG:s9 aa m):s9 aa (l++m):=by
 intro i hi k af;by_cases ay:i<l.length
 ·rw[C9 ay]at af;rw[CD (by omega)];exact h i ay k af
 ·rw[Vc (by omega)]at af;have:=aG (i-l.length) (by simp at hi;omega) k af;rw[FV,dX (by omega)];exact dm.2 (.inr this)
omit ag in
def s9.flat{aa:List aH}{f:Int->List Int}:∀ {ks:List Int},(∀ k∈ks,s9 aa (f k))->s9 aa (ks.flatMap f)
 |[],_=>λi h=>by simp at h
 |k::ks,h=>by rw[mh];exact(h k (.head _)).append (s9.flat λx ae=>h x (.tail _ ae))
def ahf{j:Nat}(aj:j<t.aa.length):(j:Int)∈iI t.aa j:=by rw[v3 ag aj];simp
def Oj:∀ (j:Nat),j<t.aa.length->s9 t.aa (iI t.aa j):=by
 intro j
 induction j using Nat.strongRecOn with
 |_ j a8=>
  intro aj;have af:∀ k∈(nodeAt t.aa j).kids,∃ q:Nat,k=q/\q<j:=λk af=>by obtain⟨av,U⟩:=ag.node aj af;exact⟨k.toNat,by omega,by omega⟩
  have U:s9 t.aa ((nodeAt t.aa j).kids.flatMap (iI t.aa)):=s9.flat λk kV=>by obtain⟨q,rfl,a0⟩:=af k kV;exact a8 q a0 (by omega)
  rw[v3 ag aj];intro i hi k xM;by_cases ay:i<((nodeAt t.aa j).kids.flatMap (iI t.aa)).length;·rw[C9 ay]at xM;rw[CD (by omega)];exact U i ay k xM
  ·rw[Vc (by omega)]at xM;have e:i-((nodeAt t.aa j).kids.flatMap (iI t.aa)).length=0:=by simp only[cz,cS,dI]at hi;omega
   simp only[e,vp,lz]at xM;rw[FV,dX (by omega)];refine dm.2 (.inl (ud.2 ⟨k,xM,?_⟩));obtain⟨q,rfl,a0⟩:=af k xM;exact ahf ag (by omega)
def Ws{j:Nat}(aj:j<t.aa.length):(iI t.aa j).getLast?=some (j:Int):=by rw[v3 ag aj];simp
def Wt:∀ (j:Nat),j<t.aa.length->(iI t.aa j).length=g' t.aa j:=by
 intro j
 induction j using Nat.strongRecOn with
 |_ j a8=>
  intro aj;rw[v3 ag aj,vP (s8.2 ag) aj,<-jO aj];simp only[cz,List.length_flatMap,cS,dI,eV];have:(nodeAt t.aa j).kids.map (λa=>(iI t.aa a).length)=(nodeAt t.aa j).kids.map (g' t.aa):=rC λk af=>by obtain⟨av,U⟩:=ag.node aj af;obtain⟨k,rfl⟩:=en av;exact a8 k (by omega) (by omega)
  rw[this];omega
def Wu:∀ (f:Nat) (todo b:List Int),(∀ k∈todo,0<=k/\k<t.aa.length)->(todo.map λn=>(iI t.aa n).length).sum<=f->rZ t.aa f todo b=b++todo.reverse.flatMap (λn=>(iI t.aa n).reverse)
 |0,todo,b,ai,au=>by
  rcases xb todo with h | ⟨r,p,h⟩;·subst h;simp[rZ]
  ·subst h;obtain⟨av,U⟩:=ai p (by simp);obtain⟨p,rfl⟩:=en av;have:=congrArg List.length (v3 ag (j:=p) (by omega));simp at au this;have ab:(iI t.aa (p:Int)).length=0:=by rw[au.2];rfl
   omega
 |f+1,todo,b,ai,au=>by
  rcases xb todo with h | ⟨r,p,h⟩;·subst h;rw[NR];simp
  ·rw[List.concat_eq_append]at h;subst h;obtain⟨av,U⟩:=ai p (by simp);obtain⟨p,rfl⟩:=en av;have aN:p<t.aa.length:=by omega
   have he:=v3 ag aN;have ay:=congrArg List.length he;simp only[cz,List.length_flatMap,cS,dI]at ay;have j4:∀ k∈r++(nodeAt t.aa p).kids,0<=k/\k<t.aa.length:=λk af=>by
    rcases dm.1 af with af | af;·exact ai k (by simp[af])
    ·have:=ag.node aN af;omega
   have sJ:((r++(nodeAt t.aa p).kids).map λn=>(iI t.aa n).length).sum<=f:=by simp only[eL,M5,cZ,jj,n4,CX]at au |-;omega
   rw[NS,lz,Wu f _ _ j4 sJ];rw[NE,NE,jF,jF,List.reverse_singleton,List.flatMap_singleton,he,NE,fx];congr 1;rw[<-fx];congr 1;simp[List.reverse_flatMap];rfl
def ahg{j:Nat}(aj:j<t.aa.length):(xG t.aa j).reverse=iI t.aa j:=by unfold xG;have U:=Wt ag j aj;have ab:=y5 (s8.2 ag) t.aa.length j aj (by omega);rw[Wu ag _ _ _ (λk af=>by simp only[fb]at af;omega) (by simp;omega)];simp
def r2(cA:List Int)(k:Int):Int:=(cA.idxOf k:Nat)
def r3(aa:List aH)(cA:List Int)(b:Int):aH:=(nodeAt aa b.toNat).m6 ((nodeAt aa b.toNat).kids.map (r2 cA))
omit ag in
def p1.idx{l:List Int}(h:p1 l){i:Nat}(hi:i<l.length):l.idxOf l[i]=i:=by
 have U:=Jt (bJ hi);have ab:=Jx U;have ak:=Vb.1 h;rcases Nat.lt_trichotomy (l.idxOf l[i]) i with aL | aL | aL
 ·exact absurd ab (ak _ _ U hi aL)
 ·exact aL
 ·exact absurd ab.symm (ak _ _ hi U aL)
omit ag in
def p1.nodup{l:List Int}(h:p1 l){i j:Nat}(hi:i<l.length)(aj:j<l.length)(e:l[i]=l[j]):i=j:=by rw[<-h.idx hi,<-h.idx aj,e]
omit ag in
def sub_fold{cA:List Int}(al:p1 cA)(aN:s9 t.aa cA)(ai:∀ k∈cA,0<=k/\k<t.aa.length):∀ i,i<=cA.length->∃ P:List Int,(cA.take i).foldl (A8 t.aa) (List.replicate t.aa.length 0,[])=(P,(cA.take i).map (r3 t.aa cA))/\P.length=t.aa.length/\∀ q (h:q<cA.length),q<i->P.getD cA[q].toNat 0=(q:Int)
 |0,_=>⟨List.replicate t.aa.length 0,rfl,by simp,λq h a0=>by omega⟩
 |i+1,hi=>by
  obtain⟨P,U,ab,ak⟩:=sub_fold al aN ai i (by omega);have cd:i<cA.length:=by omega
  have aqY:=ai _ (bJ cd);have key:∀ q (h:q<cA.length),q<i+1->(P.set cA[i].toNat (i:Nat)).getD cA[q].toNat 0=(q:Int):=λq h a0=>by
   have Ao:=ai _ (bJ h);by_cases e:q=i;·subst e;simp[bV,iz,show cA[q].toNat<P.length by omega]
   ·have bB:cA[i].toNat≠cA[q].toNat:=λc0=>e (al.nodup h cd (by omega));have:=ak q h (by omega);simp only[bV,iz]at this |-;rw[cB bB];exact this
  refine⟨P.set cA[i].toNat (i:Nat),?_,by simpa using ab,key⟩;rw[er cd,xp,U,eL];simp only[qm,Jy,A8,cT,fH,ss (Nat.le_of_lt cd),cZ,jj];have:r3 t.aa cA cA[i]=(nodeAt t.aa cA[i].toNat).m6 ((nodeAt t.aa cA[i].toNat).kids.map λk=>(P.set cA[i].toNat (i:Nat)).getD k.toNat 0):=by unfold r3;congr 1;refine rC λk af=>?_;have hm:=aN i cd k af;obtain⟨q,a0,e⟩:=rY hm;rw[fH]at a0;rw[NH]at e;rw[<-e,key q (by omega) (by omega)];unfold r2;rw[al.idx]
  rw[this]
def JT{j:Nat}(aj:j<t.aa.length):mz t.aa j=(iI t.aa j).map (r3 t.aa (iI t.aa j)):=by obtain⟨P,U,-,-⟩:=sub_fold (Oi ag j aj) (Oj ag j aj) (λk af=>by have:=(v5 ag j aj k af).1;omega) (iI t.aa j).length (b2 _);rw[Mu]at U;unfold mz;rw[ahg ag aj,U]
def Wv{j:Nat}(aj:j<t.aa.length):xL (uu (mz t.aa j)):=by
 have al:=Oi ag j aj;have aN:=Oj ag j aj;have hm:=v5 ag j aj;have v7:=Ws ag aj;rw[JT ag aj];generalize iI t.aa j=cA at *;have hlen:0<cA.length:=by
  cases cA with
  |nil=>simp at v7| cons a l=>simp
 have JU:cA[cA.length-1]=(j:Int):=by rw[Vd,ev (by omega)]at v7;exact kn v7
 have az:∀ i (h:i<cA.length),cA[i].toNat<t.aa.length:=λi h=>by have:=(hm _ (bJ h)).1;omega
 have g2:∀ i (h:i<cA.length),∀ k∈(nodeAt t.aa cA[i].toNat).kids,k∈cA/\cA.idxOf k<i:=λi h k af=>by have:=aN i h k af;refine⟨Ft this,?_⟩;obtain⟨q,a0,e⟩:=rY this;rw[fH]at a0;rw[NH]at e;rw[<-e,al.idx];omega
 have AU:∀ a∈cA,∀ b∈cA,r2 cA a=r2 cA b->a=b:=λa aX b ah e=>by
  unfold r2 at e;have c0:cA.idxOf a=cA.idxOf b:=by omega
  rw[<-Jx (Jt aX),<-Jx (Jt ah)];simp only[c0]
 have eg:s7 (cA.map (r3 t.aa cA))=cA.flatMap λb=>(nodeAt t.aa b.toNat).kids.map (r2 cA):=by unfold s7;rw[List.flatMap_map];rfl
 have c1:∀ b∈cA,∀ k∈(nodeAt t.aa b.toNat).kids,k∈cA:=λb ah k af=>by obtain⟨i,hi,rfl⟩:=rY ah;exact(g2 i hi k af).1
 refine⟨by simp[uu];omega,λi hi=>?_,λi hi k af=>?_,?_,λi hi=>?_⟩
 ·have ck:i<cA.length:=by simpa[uu]using hi
  have au:=ag.fits _ (az i ck);rw[<-jO (az i ck)]at au;simp only[uu,oP];have e:(r3 t.aa cA cA[i]).kids.length=(nodeAt t.aa cA[i].toNat).kids.length:=by show((nodeAt t.aa cA[i].toNat).kids.map (r2 cA)).length=_;rw[cT]
  rw[e];exact au
 ·have ck:i<cA.length:=by simpa[uu]using hi
  simp only[uu,oP]at af;obtain⟨q,a0,rfl⟩:=dB.1 af;have:=(g2 i ck q a0).2;unfold r2;omega
 ·show p1 (s7 (cA.map (r3 t.aa cA)));rw[eg];refine Jv.2 ⟨λb ah=>?_,?_⟩
  ·have hn:=(hm b ah).1;refine List.pairwise_map.2 ((ag.Wp (j:=b.toNat) (by omega)).imp_of_mem ?_);intro x y ae aA bB e;exact bB (AU x (c1 b ah x ae) y (c1 b ah y aA) e)
  ·refine al.imp_of_mem ?_;intro a b aX ah bB x ae y aA e;obtain⟨p,rW,rfl⟩:=dB.1 ae;obtain⟨q,xE,rfl⟩:=dB.1 aA;have aF:=AU p (c1 a aX p rW) q (c1 b ah q xE) e;subst aF;have uv:=(hm a aX).1;have hn:=(hm b ah).1;exact ag.two (i:=a.toNat) (j:=b.toNat) (by omega) (by omega) (by omega) rW xE
 ·have ck:i<cA.length:=by simpa[uu]using hi
  show(i:Int)∈s7 (cA.map (r3 t.aa cA)) ↔ (i:Int)≠((cA.map (r3 t.aa cA)).length:Int)-1;rw[eg,cT];constructor
  ·intro h e;obtain⟨b,ah,h⟩:=ud.1 h;obtain⟨k,af,a7⟩:=dB.1 h;have ahh:=c1 b ah k af;have bC:k=cA[i]:=by
    rw[<-Jx (Jt ahh)];unfold r2 at a7;have:cA.idxOf k=i:=by omega
    simp only[this]
   have di:i=cA.length-1:=by omega
   subst di;rw[JU]at bC;have hn:=(hm b ah).1;have:=ag.node (j:=b.toNat) (by omega) af;omega
  ·intro h;obtain⟨ah,aC⟩:=hm _ (bJ ck);rcases aC with e | ⟨y,aA,k9,JV⟩
   ·have:=al.nodup ck (show cA.length-1<cA.length by omega) (e.trans JU.symm);omega
   ·refine ud.2 ⟨y,aA,dB.2 ⟨cA[i],by simpa using JV,?_⟩⟩;unfold r2;rw[al.idx]
def Ww{z:α}{F:aH->List α->α}(bs:∀ d l,F (d.m6 l)=F d){j:Nat}(aj:j<t.aa.length):oU z (λd g=>F d (d.kids.map g)) (mz t.aa j) ((mz t.aa j).length-1:Int)=oU z (λd g=>F d (d.kids.map g)) t.aa j:=by
 have a5:=Wv ag aj;have al:=Oi ag j aj;have aN:=Oj ag j aj;have hm:=v5 ag j aj;have v7:=Ws ag aj;rw[JT ag aj]at a5 |-;generalize iI t.aa j=cA at *;have hlen:0<cA.length:=by
  cases cA with
  |nil=>simp at v7| cons a l=>simp
 have JU:cA[cA.length-1]=(j:Int):=by rw[Vd,ev (by omega)]at v7;exact kn v7
 have Wx:∀ (d:aH) (g dh:Int->α),(∀ k∈d.kids,g k=dh k)->F d (d.kids.map g)=F d (d.kids.map dh):=λd g dh h=>by rw[rC h]
 have key:∀ i (h:i<cA.length),oU z (λd g=>F d (d.kids.map g)) (cA.map (r3 t.aa cA)) i=oU z (λd g=>F d (d.kids.map g)) t.aa cA[i]:=by
  intro i
  induction i using Nat.strongRecOn with
  |_ i a8=>
   intro h;have ah:=(hm _ (bJ h)).1;have aF:=AI (z:=z) (f:=λd g=>F d (d.kids.map g)) Wx (s8.2 a5) (j:=i) (by simpa[uu]using h);have a7:=AI (z:=z) (f:=λd g=>F d (d.kids.map g)) Wx (s8.2 ag) (j:=cA[i].toNat) (by omega);have bC:((cA[i].toNat:Nat):Int)=cA[i]:=by omega
   rw[bC]at a7;rw[a7,<-jO (show cA[i].toNat<t.aa.length by omega)];refine aF.trans ?_;simp only[uu,oP];show F (r3 t.aa cA cA[i]) (((nodeAt t.aa cA[i].toNat).kids.map (r2 cA)).map _)=_;unfold r3;rw[bs,sS];congr 1;refine rC λk af=>?_;have mV:=aN i h k af;obtain⟨q,a0,e⟩:=rY mV;rw[fH]at a0;rw[NH]at e;have:=a8 q (by omega) (by omega);simp only[Function.comp];rw[<-e];unfold r2;rw[al.idx];exact this
 rw[cT];have:=key (cA.length-1) (by omega);rw[JU]at this;rw[<-this];congr 1;omega
end
structure cY where
 a:BitVec 64
 b:BitVec 64
 c:BitVec 64
 d:BitVec 64
 deriving DecidableEq
def cY.zero:cY:=⟨0,0,0,0⟩
def cY.or(x y:cY):cY:=⟨x.a ||| y.a,x.b ||| y.b,x.c ||| y.c,x.d ||| y.d⟩
def cY.and(x y:cY):cY:=⟨x.a &&& y.a,x.b &&& y.b,x.c &&& y.c,x.d &&& y.d⟩
def cY.sub(x y:cY):Bool:=decide (x.and y=x)
def cY.cells(x:cY):List Value:=[.int .u64 x.a.toNat,.int .u64 x.b.toNat,.int .u64 x.c.toNat,.int .u64 x.d.toNat]
def cY.val(x:cY):Value:=.agg #[.int .u64 x.a.toNat,.int .u64 x.b.toNat,.int .u64 x.c.toNat,.int .u64 x.d.toNat]
structure du where
 w:cY
 f:Bool
 deriving DecidableEq
def du.cells(x:du):List Value:=[.int .u64 x.w.a.toNat,.int .u64 x.w.b.toNat,.int .u64 x.w.c.toNat,.int .u64 x.w.d.toNat,.bool x.f]
def du.val(x:du):Value:=.agg #[.int .u64 x.w.a.toNat,.int .u64 x.w.b.toNat,.int .u64 x.w.c.toNat,.int .u64 x.w.d.toNat,.bool x.f]
def du.bI(x:du):x.cells.length=5:=rfl
def p2:du:=⟨.zero,false⟩
def Wy:du:=⟨.zero,true⟩
def du.seq(a b:du):du:=bif a.f then⟨a.w.or b.w,b.f⟩else a
def du.choice(a b:du):du:=⟨a.w.or b.w,a.f||b.f⟩
def cY.ext'{x y:cY}(U:x.a=y.a)(ab:x.b=y.b)(ak:x.c=y.c)(aL:x.d=y.d):x=y:=by obtain⟨a,b,c,d⟩:=x;obtain⟨ch,ic,c',xN⟩:=y;simp only at U ab ak aL;subst U ab ak aL;rfl
def cY.or_assoc(x y z:cY):(x.or y).or z=x.or (y.or z):=by simp only[cY.or,BitVec.or_assoc]
def cY.or_comm(x y:cY):x.or y=y.or x:=by simp only[cY.or,BitVec.or_comm]
def cY.or_self(x:cY):x.or x=x:=by simp[cY.or]
def cY.zero_or(x:cY):cY.zero.or x=x:=by simp[cY.or,cY.zero]
def zd{x y:BitVec 64}:x &&& y=x ↔ x ||| y=y:=by
 constructor
 ·intro h;apply BitVec.eq_of_getElem_eq;intro i hi;have:=congrArg (λw:BitVec 64=>w[i]) h;simp only[BitVec.getElem_and,BitVec.getElem_or]at this |-;revert this;cases x[i]<;>cases y[i]<;>simp
 ·intro h;apply BitVec.eq_of_getElem_eq;intro i hi;have:=congrArg (λw:BitVec 64=>w[i]) h;simp only[BitVec.getElem_and,BitVec.getElem_or]at this |-;revert this;cases x[i]<;>cases y[i]<;>simp
def cY.Gs{x y:cY}:x.sub y=true ↔ x.or y=y:=by
 unfold cY.sub;rw[fk];constructor
 ·intro h;have U:=congrArg cY.a h;have ab:=congrArg cY.b h;have ak:=congrArg cY.c h;have aL:=congrArg cY.d h;exact cY.ext' (zd.1 U) (zd.1 ab) (zd.1 ak) (zd.1 aL)
 ·intro h;have U:=congrArg cY.a h;have ab:=congrArg cY.b h;have ak:=congrArg cY.c h;have aL:=congrArg cY.d h;exact cY.ext' (zd.2 U) (zd.2 ab) (zd.2 ak) (zd.2 aL)
def cY.ahi(x:cY):x.sub x=true:=cY.Gs.2 x.or_self
def cY.ahj{x y z:cY}(h:x.sub y=true)(aG:y.sub z=true):x.sub z=true:=by rw[cY.Gs]at h aG |-;rw[<-aG,<-cY.or_assoc,h]
def cY.Ok{x y:cY}(h:x.sub y=true)(aG:y.sub x=true):x=y:=by rw[cY.Gs]at h aG;exact aG.symm.trans ((cY.or_comm y x).trans h)
def cY.Wz(x y:cY):x.sub (x.or y)=true:=by rw[cY.Gs,<-cY.or_assoc,cY.or_self]
def cY.zero_sub(x:cY):cY.zero.sub x=true:=by rw[cY.Gs,cY.zero_or]
structure Gt(I:aT)(M:List aD)(a:Option Addr)(n:Nat)(ks:List du):Prop where
 n:ks.length=n
 rd:∀ j (h:j<ks.length),∃ ad,a=some ad/\bq I M (ad.add (j*5)) 5 ks[j].cells
structure du.le(a b:du):Prop where
 w:a.w.sub b.w=true
 f:a.f=true->b.f=true
def du.le_refl(a:du):a.le a:=⟨cY.ahi _,id⟩
def du.le.trans{a b c:du}(h:a.le b)(aG:b.le c):a.le c:=⟨cY.ahj h.w aG.w,λx=>aG.f (h.f x)⟩
def du.le.antisymm{a b:du}(h:a.le b)(aG:b.le a):a=b:=by
 have U:=cY.Ok h.w aG.w;obtain⟨aqZ,ahk⟩:=a;obtain⟨aq0,iJ⟩:=b;simp only at U;subst U;have au:=h.f;have sJ:=aG.f;cases ahk<;>cases iJ<;>simp_all
def du.m8(a:du):p2.le a:=⟨cY.zero_sub _,λh=>by cases h⟩
def JW(x:BitVec 64):BitVec.ofInt 64 (x.toNat:Int)=x:=by rw[BitVec.ofInt_natCast,BitVec.ofNat_toNat,BitVec.setWidth_eq]
def WA(x:BitVec 64):IntKind.u64.wrap (x.toNat:Int)=(x.toNat:Int):=by have:=x.isLt;unfold IntKind.wrap;simp only[IntKind.bits,IntKind.signed];simp;omega
def ahl{x y:BitVec 64}:((x.toNat:Int) == (y.toNat:Int))=decide (x=y):=by rw[l7];simp[BitVec.toNat_eq];omega
structure Dw(α:Type) where
 le:α->α->Prop
 m8:α
 refl:∀ a,le a a
 trans:∀ {a b c},le a b->le b c->le a c
 WB:∀ {a b},le a b->le b a->a=b
 low:∀ a,le m8 a
structure o8{α:Type}(O:Dw α)(l m:List α):Prop where
 len:l.length=m.length
 at':∀ i,O.le (l.getD i O.m8) (m.getD i O.m8)
section
variable{α:Type}{O:Dw α}
def o8.refl(l:List α):o8 O l l:=⟨rfl,λ_=>O.refl _⟩
def o8.trans{a b c:List α}(h:o8 O a b)(aG:o8 O b c):o8 O a c:=⟨h.len.trans aG.len,λi=>O.trans (h.at' i) (aG.at' i)⟩
def o8.of{a b:List α}(ay:a.length=b.length)(h:∀ i,i<a.length->O.le (a.getD i O.m8) (b.getD i O.m8)):o8 O a b:=⟨ay,λi=>by
 by_cases hi:i<a.length
 ·exact h i hi
 ·have e:a.getD i O.m8=O.m8:=by simp[bV,ql (Nat.le_of_not_lt hi)]
  rw[e];exact O.low _⟩
def Ol(l:List α)(b:α)(i j:Nat)(x:α)(hi:i<l.length):(l.set i x).getD j b=if i=j then x else l.getD j b:=by
 simp only[bV,iz];by_cases e:i=j
 ·subst e;simp[hi]
 ·rw[cB e,cB e]
structure Om(O:Dw α)(n:Nat)(body:List α->Nat->α)(l:List α):Prop where
 len:l.length=n
 up:∀ i,i<n->O.le (l.getD i O.m8) (body l i)
 least:∀ m:List α,m.length=n->(∀ i,i<n->O.le (body m i) (m.getD i O.m8))->o8 O l m
structure ahm(O:Dw α)(n:Nat)(body:List α->Nat->α)(l:List α):Prop where
 len:l.length=n
 fix:∀ i,i<n->l.getD i O.m8=body l i
 least:∀ m:List α,m.length=n->(∀ i,i<n->O.le (body m i) (m.getD i O.m8))->o8 O l m
section
variable{n:Nat}{body:List α->Nat->α}(ze:∀ {l m:List α},o8 O l m->∀ i,i<n->O.le (body l i) (body m i))
include ze
def Om.step{l:List α}(h:Om O n body l){i:Nat}(hi:i<n):Om O n body (l.set i (body l i))/\o8 O l (l.set i (body l i)):=by
 have cd:i<l.length:=by rw[h.len];exact hi
 have hle:o8 O l (l.set i (body l i)):=.of (by simp) λj aj=>by
  rw[Ol _ _ _ _ _ cd];by_cases e:i=j;·subst e;rw[cw rfl];exact h.up i hi
  ·rw[cB e];exact O.refl _
 refine⟨⟨by simpa using h.len,λj aj=>?_,λm hm aC=>?_⟩,hle⟩
 ·rw[Ol _ _ _ _ _ cd];by_cases e:i=j
  ·subst e;rw[cw rfl];exact ze hle _ hi
  ·rw[cB e];exact O.trans (h.up j aj) (ze hle _ aj)
 ·have Gl:=h.least m hm aC;refine .of (by simp[h.len,hm]) λj aj=>?_;rw[Ol _ _ _ _ _ cd];by_cases e:i=j
  ·subst e;rw[cw rfl];exact O.trans (ze Gl _ hi) (aC i hi)
  ·rw[cB e];exact Gl.at' j
end
end
def WC{α:Type}{p q:α->Bool}:∀ {l:List α},(∀ x∈l,p x=true->q x=true)->l.countP q<=l.countP p->∀ x∈l,q x=true->p x=true
 |[],_,_,x,ae,_=>by cases ae
 |y::l,h,hle,x,ae,a0=>by
  have hm:=List.countP_mono_left (p:=p) (q:=q) (l:=l) (λx ae=>h x (.tail _ ae));rw[List.countP_cons,List.countP_cons]at hle;have aA:=h y (.head _);have key:(q y=true->p y=true)/\l.countP q<=l.countP p:=by cases aN:p y<;>cases aq1:q y<;>simp_all<;>omega
  rcases ea.1 ae with rfl | ae;·exact key.1 a0
  ·exact WC (λx ae=>h x (.tail _ ae)) key.2 x ae a0
def Gu(x:BitVec 64):Nat:=(List.range 64).countP λi=>!x.getLsbD i
def ahn{x y:BitVec 64}(h:x &&& y=x):Gu y<=Gu x/\(Gu x<=Gu y->x=y):=by
 have ah:∀ i,x.getLsbD i=true->y.getLsbD i=true:=λi ae=>by have:=congrArg (λw:BitVec 64=>w.getLsbD i) h;simp only[NG,ae,kj]at this;exact this
 have aN:∀ i∈List.range 64,(!y.getLsbD i)=true->(!x.getLsbD i)=true:=λi _ hi=>by
  have U:=ah i;cases ae:x.getLsbD i with
  |false=>rfl| true=>rw[U ae]at hi;cases hi
 refine⟨List.countP_mono_left aN,λhle=>?_⟩;have:=WC aN hle;apply ND;intro i hi;have U:=ah i;have ab:=this i (kf.2 hi);cases ae:x.getLsbD i<;>cases aA:y.getLsbD i<;>simp_all
def Gv:Dw du:=⟨du.le,p2,du.le_refl,λh aG=>h.trans aG,λh aG=>h.antisymm aG,du.m8⟩
def cY.at(w:cY)(i:Nat):BitVec 64:=bif decide (i=0)then w.a else bif decide (i=1)then w.b else bif decide (i=2)then w.c else w.d
def cY.one(i:Nat)(x:BitVec 64):cY:=⟨bif decide (i=0)then x else 0,bif decide (i=1)then x else 0,bif decide (i=2)then x else 0,bif decide (i=3)then x else 0⟩
def aho(b:UInt8):cY:=.one (b.toNat/64) (1#64 <<< (b.toNat%64))
def ahp(l:List UInt8):cY:=l.foldl (λw b=>w.or (aho b)) .zero
def aH.ws(d:aH):cY:=⟨BitVec.ofInt 64 d.cF,BitVec.ofInt 64 d.s1,BitVec.ofInt 64 d.s2,BitVec.ofInt 64 d.dt⟩
def ahq(d:aH)(k:du):du:=bif decide (d.hi=0)then Wy else⟨k.w,k.f||decide (d.lo=0)⟩
def ahr(ks:List du):du:=ks.foldl du.seq Wy
def ahs(ks:List du):du:=ks.foldl du.choice p2
def aht(t:ByteArray):du:=⟨ahp (t.data.toList.take 1),false⟩
def ahu(d:aH)(x:aM)(ks:List du):du:=
 bif decide (d.k=0)then⟨.zero,x.lj⟩else
 bif decide (d.k=1)then⟨d.ws,false⟩else
 bif decide (d.k=2)then aht d.t else
 bif decide (d.k=3)then ks.headD p2 else
 bif decide (d.k=4)then ahr ks else
 bif decide (d.k=5)then ahs ks else
 bif decide (d.k=6)then ahq d (ks.headD p2)else
 bif decide (d.k=7)then⟨.zero,x.lj⟩else
 bif decide (d.k=8)then⟨.zero,x.lj⟩else ks.headD p2
def ahv(pl:List (ByteArray×Int))(a4 acc:List du)(d:aH):List du:=
 d.kids.map (λk=>acc.getD k.toNat p2)++bif decide (d.k=3)then [a4.getD ((dP d.t pl).getD 0).toNat p2]else []
def Gw(pl:List (ByteArray×Int))(a4:List du)(xs:List aM):List aH->List du->List du
 |[],acc=>acc| d::ds,acc=>Gw pl a4 xs ds (acc++[ahu d (xs.getD acc.length bw) (ahv pl a4 acc d)])
def WD(pl:List (ByteArray×Int))(a4:List du)(xs:List aM):∀ (ds:List aH) (acc:List du),(Gw pl a4 xs ds acc).length=acc.length+ds.length
 |[],acc=>rfl| d::ds,acc=>by rw[Gw,WD];simp;omega
def aq2.map{f g:α->du}{l:List α}(h:∀ x∈l,(f x).le (g x)):o8 Gv (l.map f) (l.map g):=.of (by simp) λi hi=>by
 have ck:i<l.length:=by simpa using hi
 have:=h _ (bJ ck);simpa[bV,ck]using(show Gv.le _ _ from this)
def ahw(pl:List (ByteArray×Int))(F:List aM)(ds:List aK)(l:List du)(i:Nat):du:=match ds[i]? with
 |some d=>(Gw pl l (dq pl F d.t.aa []) d.t.aa []).getD d.t.root.toNat p2| none=>p2
def ahx(ds:List aK)(F:List aM)(l:List du):Prop:=ahm Gv ds.length (ahw (a' ds) F ds) l
def cY.has(w:cY)(n:Nat):Bool:=(w.at (n/64)).getLsbD (n%64)
end Go.V
