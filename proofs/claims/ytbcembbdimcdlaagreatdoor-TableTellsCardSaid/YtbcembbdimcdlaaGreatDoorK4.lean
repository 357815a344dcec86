/- Part 4 of what the proofs of this seat share: the executor, data in memory, walks.
-/
import Derived.Test.YtbcembbdimcdlaaGreatDoorK3
import Derived.ChangeSame
import Derived.ChangeArms
import Derived.OpenShut
import Derived.Deep.DeepHandedRow
import Derived.Lib.LaidTab
import Derived.Test.YtbcembbdimcdlaaGreatDoorRows
import Derived.Test.YtbcembbdimcdlaaGreatDoorCards
import Derived.Test.YtbcembbdimcdlaaGreatDoorTie
import Derived.WalkKit
import Derived.ProofKit
import Derived.WideKeyArgs
import Derived.Below
import Derived.JoinedOf
import Derived.Test.YtbcembbdimcdlaaGreatDoorK2
import Derived.Laws.IdiomStrings
import Derived.Lib.SliceRun
set_option linter.all false
set_option maxHeartbeats 40000000
set_option maxRecDepth 100000
namespace Go.V
open Go Go.Proofs
def ct:=@of_decide_eq_false
def vU:=@List.perm_append_comm_assoc
def th:=@List.getElem_of_mem
def rj:=@List.perm_middle
def qi:=@Option.some.inj
def yY:=@Nat.add_sub_cancel'
def yZ:=@List.replicate_succ
def xq:=@Bool.eq_false_iff
def AR:=@Nat.ble_eq_true_of_le
def FJ:=@List.sublist_append_left
def FK:=@Nat.add_sub_cancel_left
def I8:=@Int.tdiv_eq_ediv_of_nonneg
def AS:=@List.length_set
def CN:=@decide_eq_decide
def I9:=@List.length_take_of_le
def FL:=@Nat.lt_of_le_of_lt
def y0:=@Bool.true_or
def Ja:=@List.getD_cons_zero
def T9:=@Nat.testBit_eq_decide_div_mod_eq
def Jb:=@DataW.trod_string
def Jc:=@Nat.min_le_right
def Jd:=@Nat.le_max_right
def Nh:=@List.pairwise_append
def Ni:=@List.getD_cons_succ
def Je:=@Nat.le_max_left
def Nj:=@BitVec.toNat_ofNat
def T':=@List.mem_or_eq_of_mem_set
def Jf:=@Bool.and_false
def Nk:=@List.flatten_cons
def FM:=@decide_true
def Nl:=@DataW.trod_array
def Nm:=@List.drop_length
def Nn:=@List.take_append
variable{args cs vs xs:List Value}{W kF:World}{v:Value}{cb:Array Field}{sz size e eI a0 i z fA c7 src dst c':Nat}{rows:List (List Value)}{g:cE}{α:Type}{L:List (Nat×Nat)}{I:aH}{d:a3}{x y:Operand}{p:List MemPlace}{hi d' cg kx b' lo:Int}{E:Env}{dn aJ FN:dU}{other:Prop}{M:List aE}{K:Value->aH->List aE->Prop}{A je:Nat->Nat->Prop}{ad:Addr}{b6:List Nat}{os:a'}
def qj(W:World):aH:=λb=>W.heap[b]?
def adp(W:World):ef (qj W) [] W:=⟨λb o h=>h,(λx ab=>by cases ab),(λx ab=>by cases ab),zU⟩
structure AT(W kF:World):Prop where
 c2:∀ b,b<W.heap.size->kF.heap[b]?=W.heap[b]?
 sz:W.heap.size<=kF.heap.size
 out:n3 W kF
def adq{P:Program}{f:Nat}{post:Value->aH->List aE->Prop}(h:wZ P f args (qj W) [] post) :
  Calls P f args.toArray W λe kF=>∃ v,e=.returned v/\(∃ I' M',post v I' M')/\AT W kF:=by
 refine(h.2 W (adp W)).mono ?_;rintro e kF⟨v,I',M',rfl,aK,_,fl⟩;exact⟨v,rfl,⟨I',M',aK⟩,λb ag=>fl.c2 b ag (λy aG=>by cases aG),fl.sz,fl.out⟩
def AT.kept(h:AT W kF)(may:MemPlace->Prop):W.keptBut kF may:=by
 refine⟨h.out.1,h.out.2,λi hi=>?_⟩;rw[h.c2 i hi];cases W.heap[i]? with
 |none=>rfl| some o=>cases o<;>simp
def AT.frozen(h:AT W kF){a:Addr}(ax:a.block<W.heap.size):kF.frozen? a=W.frozen? a:=by unfold World.frozen?;rw[h.c2 _ ax]
variable{H:Type}{enc:TypeId×Value->H}{P:Program}
def adr{f:Func}{s:ChangeSpec}{apart fresh handsOn again:Bool}{args:Array Value}{ds gs:List (DataW H)}{before pa pv:List MemPlace}(gV:DataW.Whole enc P f.params.toList s.vars apart W args.toList ds gs before)(FO:∀ (b:Nat) (eo:Nat->Bool) (ah:Bool),DataW.TrodAll enc P kF b eo ah f.resultTypes.toList (v.resultList f.resultTypes.size) (s.fn H (ds++gs)).results [])(l9:∀ eo:Nat->Bool,(∀ p∈before,eo p.block=true)->DataW.TrodAll enc P kF 0 eo true f.params.toList args.toList (s.fn H (ds++gs)).args pa)(Ua:∀ eo:Nat->Bool,(∀ p∈before,eo p.block=true)->DataW.TrodVars enc P kF eo s.vars (s.fn H (ds++gs)).vars pv)(nQ:before=pa++pv)(af:AT W kF)(a5:∀ (j:Nat) (t:TypeId) (r:Value),f.resultTypes[j]?=some t->(v.resultList f.resultTypes.size)[j]?=some r->Value.okWide P kF .any 0 t r) :
  s.post enc P f apart fresh handsOn again W args v kF:=by
 have hold:∀ p∈before,(λb=>decide (b<W.heap.size)) p.block=true:=λp aK=>by simpa using gV.lt p aK
 have aO:∀ p∈before,p.block<W.heap.size:=λp aK=>gV.lt p aK;refine⟨ds,gs,before,[],pa,pv,gV,FO _ _ _,l9 _ hold,Ua _ hold,World.keptBut_mono (λp aK=>⟨aK,?_⟩) (af.kept (·∈before)),λ_=>?_⟩
 ·rw[nQ,dW]at aK;exact Or.inr aK
 ·obtain⟨_,_,_,_,_,a1,an⟩:=gV;refine⟨a5,_,_,([]++pa)++pv,⟨[]++pa,pv,ChangeShapes.trodAll_append (l9 _ (λ_ _=>rfl)) (FO _ _ _),Ua _ (λ_ _=>rfl),rfl,?_,?_⟩,?_⟩
  ·intro b off aK;have CO:MemPlace.cell b off∈before:=by rw[nQ];simpa using aK
   rw[af.frozen (a:=⟨b,off,none⟩) (aO _ CO)];exact a1 b off CO
  ·intro ax;have:=an ax;rw[nQ]at this;simpa using this
  ·intro p aK _;rw[nQ];simpa using aK
def xr:DataW H->Option Value
 | .lit (.int k z)=>some (.int k z)| .lit (.string l)=>some (.string ⟨l.toArray⟩)| .lit (.bool b)=>some (.bool b)| _=>none
def FP(P:Program)(e:TypeId):Bool:=match P.underlying e with
 |some .bool | some (.int _) | some .string=>true| _=>false
section
variable{w:World}{a0:Nat}{eo:Nat->Bool}{held:Bool}{eI:Nat}{t e:TypeId}{cs:List Value}{d:DataW H}{p:List MemPlace}
def Ub(he:FP P e=true)(h:DataW.trod enc P w a0 eo held eI e cs=some (d,p))(ai:xr d=some v):cs=[v]:=by
 unfold FP at he;split at he
 ·rename_i hu;obtain⟨b,rfl,ab⟩:=DataW.trod_bool hu h;cases ab;simpa[xr]using ai
 ·rename_i k hu;obtain⟨n,rfl,ab,_⟩:=DataW.trod_int hu h;cases ab;simpa[xr]using ai
 ·rename_i hu;obtain⟨s,rfl,ab,_⟩:=Jb hu h;cases ab;simpa[xr]using ai
 ·cases he
def Jg{α β:Type}{f:α->Option β}:∀ {l:List α} {r:List β},l.mapM f=some r->r.length=l.length/\∀ i (h:i<l.length) (bh:i<r.length),f l[i]=some r[i]
 |[],r,h=>by simp at h;subst h;exact⟨rfl,λi h=>by simp at h⟩
 |x::l,r,h=>by
  simp only[EA,Option.bind_eq_bind,LY,Option.pure_def,lx]at h;obtain⟨b,ag,r2,gh,rfl⟩:=h;obtain⟨U,aa⟩:=Jg gh;refine⟨by simp[U],λi hi dw=>?_⟩;cases i with
  |zero=>simpa using ag| succ i=>simpa using aa i (by simpa using hi) (by simpa using dw)
def Uc(aw:cs.length=vs.length)(h:∀ i (hi:i<vs.length),(cs.drop i).take 1=[vs[i]]):cs=vs:=by apply yp aw;intro i U aa;have:=h i aa;rw[eE U,pX,r5]at this;simpa using this
def Ud{n:Nat}(au:P.underlying t=some (.array n e))(he:FP P e=true)(AU:P.cellsOf e=1)(hC:P.cellsOf t=n){ds:List (DataW H)}(h:DataW.trod enc P w a0 eo held eI t cs=some (.agg ds,p))(ai:ds.mapM xr=some vs):cs=vs:=by
 obtain⟨xs,m,rfl,ab,aw,hb,hi⟩:=Nl au h;have hW:ds=xs.map (·.1):=by have:=congrArg Prod.fst ab;simpa using this
 obtain⟨aV,aX⟩:=Jg ai;have sr:vs.length=n:=by rw[aV,hW];simpa using hb
 refine Uc (by rw[aw,hC,sr]) λi dw=>?_;have U:=hi i (by omega);rw[AU,h4]at U;have uz:i<xs.length:=by omega
 rw[fJ uz]at U;have aa:=aX i (by rw[hW];simpa using uz) dw;have ae:ds[i]'(by rw[hW];simpa using uz)=xs[i].1:=by simp[hW]
 rw[ae]at aa;exact Ub he (d:=xs[i].1) (p:=xs[i].2) U aa
def ads(au:P.underlying t=some (.struct cb))(aF:∀ (i:Nat) (f:Field),cb[i]?=some f->FP P f.type=true/\f.offset=i/\P.cellsOf f.type=1)(hC:P.cellsOf t=cb.size){ds:List (DataW H)}(h:DataW.trod enc P w a0 eo held eI t cs=some (.agg ds,p))(ai:ds.mapM xr=some vs):cs=vs:=by
 obtain⟨xs,m,rfl,ab,aw,hb,hi⟩:=DataW.trod_struct au h;have hW:ds=xs.map (·.1):=by have:=congrArg Prod.fst ab;simpa using this
 obtain⟨aV,aX⟩:=Jg ai;have sr:vs.length=cb.size:=by rw[aV,hW];simpa using hb
 refine Uc (by rw[aw,hC,sr]) λi dw=>?_;have Ue:i<cb.size:=by omega
 obtain⟨db,cR,eB⟩:=aF i cb[i] (Ew Ue);have U:=hi i cb[i] (Ew Ue);rw[cR,eB]at U;have uz:i<xs.length:=by omega
 rw[fJ uz]at U;have aa:=aX i (by rw[hW];simpa using uz) dw;have ae:ds[i]'(by rw[hW];simpa using uz)=xs[i].1:=by simp[hW]
 rw[ae]at aa;exact Ub db (d:=xs[i].1) (p:=xs[i].2) U aa
def Uf{sz:Nat}:∀ (rows:List (List Value)) (cs:List Value),cs.length=rows.length*sz->(∀ i (hi:i<rows.length),(cs.drop (i*sz)).take sz=rows[i])->cs=rows.flatten
 |[],cs,aw,_=>nB (by simpa using aw)
 |r::rows,cs,aw,h=>by
  have aq:=h 0 (by simp);simp only[EZ,oZ,Ae]at aq;rw[dL,iJ,o0]at aw;have bc:=Uf (sz:=sz) rows (cs.drop sz) (by rw[yo];omega) λi hi=>by have:=h (i+1) (by simpa using hi);rw[Aj,show sz+i*sz=(i+1)*sz from by rw[iJ];omega];simpa using this
  rw[Nk,<-bc,<-aq,yH]
def adt{n:Nat}(au:P.underlying t=some (.array n e))(AU:P.cellsOf e=sz)(hC:P.cellsOf t=n*sz){ds:List (DataW H)}(h:DataW.trod enc P w a0 eo held eI t cs=some (.agg ds,p))(ao:rows.length=ds.length)
  (eW:∀ i (hi:i<ds.length) (dw:i<rows.length) eI cs p,DataW.trod enc P w a0 eo held eI e cs=some (ds[i],p)->cs=rows[i]):cs=rows.flatten:=by
 obtain⟨xs,m,rfl,ab,aw,hb,hi⟩:=Nl au h;have hW:ds=xs.map (·.1):=by have:=congrArg Prod.fst ab;simpa using this
 have hN:rows.length=n:=by rw[ao,hW];simpa using hb
 refine Uf (sz:=sz) rows cs (by rw[aw,hC,hN]) λi dw=>?_;have U:=hi i (by omega);rw[AU]at U;have uz:i<xs.length:=by omega
 rw[fJ uz]at U;have ae:ds[i]'(by rw[hW];simpa using uz)=xs[i].1:=by simp[hW]
 exact eW i (by rw[hW];simpa using uz) dw m _ xs[i].2 (by rw[ae];exact U)
def Ug(d:DataW H):Option (List Value):=match d with
 | .agg l=>l.mapM xr| _=>none
def No{n:Nat}(au:P.underlying t=some (.array n e))(AU:P.cellsOf e=sz)(hC:P.cellsOf t=n*sz){ds:List (DataW H)}(h:DataW.trod enc P w a0 eo held eI t cs=some (.agg ds,p))(ao:ds.mapM Ug=some rows)
  (eW:∀ eI cs p l row,DataW.trod enc P w a0 eo held eI e cs=some (.agg l,p)->l.mapM xr=some row->cs=row):cs=rows.flatten:=by
 obtain⟨aV,aX⟩:=Jg ao;refine adt au AU hC h aV λi hi dw eI cs p bh=>?_;have aa:=aX i hi dw;unfold Ug at aa;split at aa
 ·rename_i l aw;rw[aw]at bh;exact eW _ _ _ _ _ bh aa
 ·cases aa
end
end Go.V
namespace Go.V
open Go Go.Proofs
variable{args cs vs xs:List Value}{W kF:World}{v:Value}{cb:Array Field}{sz size e eI a0 i z fA c7 src dst c':Nat}{rows:List (List Value)}{g:cE}{α:Type}{L:List (Nat×Nat)}{I:aH}{d:a3}{x y:Operand}{p:List MemPlace}{hi d' cg kx b' lo:Int}{E:Env}{dn aJ FN:dU}{other:Prop}{M:List aE}{K:Value->aH->List aE->Prop}{A je:Nat->Nat->Prop}{ad:Addr}{b6:List Nat}{os:a'}
def Jh{P:Program}{n:String}{g:Nat}{cs:Array Value}(aB:P.globalNamed n=some g)(h:W.var? P n=some cs):∃ T aj,W.heap[g]?=some (.cells cs T aj):=by
 simp only[World.var?,aB,Option.bind_some]at h;split at h
 ·rename_i c T aj bC;cases h;exact⟨T,aj,bC⟩
 ·cases h
def kG:List Int:=[0,1,56,2,57,49,28,3,61,58,42,50,38,29,17,4,62,47,59,36,45,43,51,22,53,39,33,30,24,18,12,5,63,55,48,27,60,41,37,16,46,35,44,21,52,32,23,11,54,26,40,15,34,20,31,10,25,14,19,9,13,8,7,6]
def adu{a6:List (String×DataW Unit)}(h:laidMet Tryz.prog ([("math/bits.deBruijn32tab",YtbcembbdimcdlaaGreatDoor.Rows.laid_math_bits_deBruijn32tab),("math/bits.deBruijn64tab",YtbcembbdimcdlaaGreatDoor.Rows.laid_math_bits_deBruijn64tab),("internal/strconv.uint64pow10",YtbcembbdimcdlaaGreatDoor.Rows.laid_internal_strconv_uint64pow10),("bonsai/tree.counts",YtbcembbdimcdlaaGreatDoor.Rows.laid_bonsai_tree_counts),("bonsai/print.counts",YtbcembbdimcdlaaGreatDoor.Rows.laid_bonsai_print_counts),("bonsai/print.signs",YtbcembbdimcdlaaGreatDoor.Rows.laid_bonsai_print_signs)]++a6) W):kC (qj W) kG:=by
 obtain⟨ps,bQ,_⟩:=h;obtain⟨aV,t1,anJ,f1,qb,dJ,nL,vP,w7,jb,bQ,_⟩:=bQ;obtain⟨aX,t2,CP,f2,qc,c9,hU,qg,vo,ox,bQ,_⟩:=bQ;obtain⟨bq,t3,anK,f3,ti,dT,mI,y1,vV,AV,bQ,_⟩:=bQ;obtain⟨eK,t4,adv,f4,CQ,fL,vQ,Np,Nq,Nr,bQ,_⟩:=bQ;obtain⟨mY,t5,adw,f5,adx,anL,Ji,FQ,Jj,ady,bQ,_⟩:=bQ;obtain⟨Jk,t6,adz,f6,anM,anN,Uh,adA,adB,adC,bQ,_⟩:=bQ;obtain rfl:=qi ((show Tryz.prog.globalNamed "math/bits.deBruijn64tab" = some 4 by kernel_rfl).symm.trans hU)
 obtain rfl:=qi ((show(Tryz.prog.globals[4]?).map (·.type)=some 378 by kernel_rfl).symm.trans qg);obtain rfl:=qi ((show Tryz.prog.globalNamed "bonsai/tree.counts" = some 0 by kernel_rfl).symm.trans vQ)
 obtain rfl:=qi ((show(Tryz.prog.globals[0]?).map (·.type)=some 248 by kernel_rfl).symm.trans Np);obtain rfl:=qi ((show Tryz.prog.globalNamed "bonsai/print.counts" = some 2 by kernel_rfl).symm.trans Ji)
 obtain rfl:=qi ((show(Tryz.prog.globals[2]?).map (·.type)=some 341 by kernel_rfl).symm.trans FQ);obtain rfl:=qi ((show Tryz.prog.globalNamed "bonsai/print.signs" = some 1 by kernel_rfl).symm.trans Uh)
 obtain rfl:=qi ((show(Tryz.prog.globals[1]?).map (·.type)=some 303 by kernel_rfl).symm.trans adA);obtain⟨AL,hX,ch⟩:=Jh hU vo;obtain⟨M2,rk,e5⟩:=Jh vQ Nq;obtain⟨adD,tj,h8⟩:=Jh Ji Jj;obtain⟨adE,FR,dA⟩:=Jh Uh adB;have c3:CP.toList=kG.map (Value.int .u8):=Ud (show Tryz.prog.underlying 378=some (.array 64 5) by kernel_rfl) (by kernel_rfl) (by kernel_rfl) (by kernel_rfl) ox (by kernel_rfl);have vW:adv.toList=m0.map (Value.int .i64):=No (n:=10) (sz:=2) (show Tryz.prog.underlying 248=some (.array 10 247) by kernel_rfl) (by kernel_rfl) (by kernel_rfl) Nr (rows:=[[.int .i64 0,.int .i64 0],[.int .i64 0,.int .i64 0],[.int .i64 0,.int .i64 0],[.int .i64 0,.int .i64 0],[.int .i64 2,.int .i64 (-1)],[.int .i64 2,.int .i64 (-1)],[.int .i64 1,.int .i64 1],[.int .i64 1,.int .i64 1],[.int .i64 1,.int .i64 1],[.int .i64 1,.int .i64 1]]) (by kernel_rfl) (λ_ _ _ _ _ U aa=>Ud (show Tryz.prog.underlying 247=some (.array 2 3) by kernel_rfl) (by kernel_rfl) (by kernel_rfl) (by kernel_rfl) U aa);have fields:∀ {t:TypeId},(match Tryz.prog.underlying t with
   |some (.struct cb)=>decide (Tryz.prog.cellsOf t=cb.size)&&(List.range cb.size).all λi=>match cb[i]? with
    |some f=>FP Tryz.prog f.type&&(decide (f.offset=i)&&decide (Tryz.prog.cellsOf f.type=1))| none=>false
   |_=>false)=true->∀ (eI:Nat) (cs:List Value) (p:List MemPlace) (l:List (DataW Unit)) (row:List Value),DataW.trod (λ_=>()) Tryz.prog W 0 (λ_=>true) false eI t cs=some (.agg l,p)->l.mapM xr=some row->cs=row:=by
  intro t aN eI cs p l row U aa;split at aN;·rename_i cb hu;simp only[cA,e7,g0,j2]at aN;refine ads hu (λi f aF=>?_) aN.1 U aa;have hi:=aN.2 i (lv.1 aF).1;rw[aF]at hi;simpa using hi
  ·cases aN
 have rl:adw.toList=Fz:=No (n:=3) (sz:=3) (show Tryz.prog.underlying 341=some (.array 3 340) by kernel_rfl) (by kernel_rfl) (by kernel_rfl) ady (rows:=[[.int .i64 0,.int .i64 1,.string ⟨#[63]⟩],[.int .i64 0,.int .i64 (-1),.string ⟨#[42]⟩],[.int .i64 1,.int .i64 (-1),.string ⟨#[43]⟩]]) (by kernel_rfl) (fields (by kernel_rfl));have xt:adz.toList=ur.map λl=>Value.string (strOf l):=No (n:=10) (sz:=3) (show Tryz.prog.underlying 303=some (.array 10 302) by kernel_rfl) (by kernel_rfl) (by kernel_rfl) adC (rows:=[[.string ⟨#[]⟩,.string ⟨#[]⟩,.string ⟨#[]⟩],[.string ⟨#[]⟩,.string ⟨#[]⟩,.string ⟨#[]⟩],[.string ⟨#[]⟩,.string ⟨#[]⟩,.string ⟨#[]⟩],[.string ⟨#[]⟩,.string ⟨#[]⟩,.string ⟨#[]⟩],[.string ⟨#[]⟩,.string ⟨#[32]⟩,.string ⟨#[]⟩],[.string ⟨#[]⟩,.string ⟨#[32,47,32]⟩,.string ⟨#[]⟩],[.string ⟨#[]⟩,.string ⟨#[]⟩,.string ⟨#[]⟩],[.string ⟨#[38]⟩,.string ⟨#[]⟩,.string ⟨#[]⟩],[.string ⟨#[33]⟩,.string ⟨#[]⟩,.string ⟨#[]⟩],[.string ⟨#[60]⟩,.string ⟨#[]⟩,.string ⟨#[62]⟩]]) (by kernel_rfl) (fields (by kernel_rfl));have arr:∀ {cs:Array Value} {l:List Value},cs.toList=l->cs=l.toArray:=λh=>by apply gG;simpa using h
 refine⟨⟨M2,rk,?_⟩,⟨adD,tj,?_⟩,⟨adE,FR,?_⟩,by decide,by decide,AL,hX,?_⟩
 ·rw[<-arr vW];exact e5
 ·rw[<-arr rl];exact h8
 ·rw[<-arr xt];exact dA
 ·rw[<-arr c3];exact ch
def CR(cs:Array Value):Obj->Obj
 | .cells _ t aj=>.cells cs t aj| o=>o
def adF:List Int:=(List.range 20).map λi=>(10:Int)^i
def adG:List Int:=[0,1,28,2,29,14,24,3,30,22,20,15,25,17,4,8,31,27,13,23,21,19,16,7,26,12,18,6,11,5,10,9]
noncomputable def Ns(os:Os):World:=
 { World.holding Tryz.prog os ⟨#[],#[],[]⟩with heap:=((((((World.holding Tryz.prog os ⟨#[],#[],[]⟩).heap.modify 0 (CR (m0.map (Value.int .i64)).toArray)).modify 2 (CR Fz.toArray)).modify 1 (CR (ur.map λl=>Value.string (strOf l)).toArray)).modify 4 (CR (kG.map (Value.int .u8)).toArray)).modify 3 (CR (adF.map (Value.int .u64)).toArray)).modify 5 (CR (adG.map (Value.int .u8)).toArray) }
def own:ownKnob Tryz.prog.godebug=none:=by kernel_rfl
def laidOut:laidOutB Tryz.prog=true:=by kernel_rfl
def Ui{l:List α}{q:α->Bool}(h:l.all q=true){x:α}(ab:x∈l):q x=true:=g0.1 h x ab
def adH{L:List (String×DataW Unit)}(bQ:laidMetH Tryz.prog L W)(he:L=[("math/bits.deBruijn32tab",YtbcembbdimcdlaaGreatDoor.Rows.laid_math_bits_deBruijn32tab),("math/bits.deBruijn64tab",YtbcembbdimcdlaaGreatDoor.Rows.laid_math_bits_deBruijn64tab),("internal/strconv.uint64pow10",YtbcembbdimcdlaaGreatDoor.Rows.laid_internal_strconv_uint64pow10),("bonsai/tree.counts",YtbcembbdimcdlaaGreatDoor.Rows.laid_bonsai_tree_counts),("bonsai/print.counts",YtbcembbdimcdlaaGreatDoor.Rows.laid_bonsai_print_counts),("bonsai/print.signs",YtbcembbdimcdlaaGreatDoor.Rows.laid_bonsai_print_signs)]):kC (qj W) kG:=by
 subst he;exact adu (a6:=[]) bQ
structure AW(I:aH)(d:a3):Prop where
 k:0<=d.k/\d.k<256
 fY:fo d.fY
 s1:fo d.s1
 s2:fo d.s2
 gM:fo d.gM
 lo:mF d.lo
 hi:mF d.hi
 a2:dX I d.hK d.kn d.hk 1 0 (d.aM.map (.int .i64 ·))
 aM:∀ x∈d.aM,mF x
 ts:d.t.size<=9223372036854775807
structure uA(I:aH)(t:bB):Prop where
 a2:dX I t.a t.n t.c 9 0 (t.ns.flatMap a3.cells)
 ns:∀ d∈t.ns,AW I d
 bJ:mF t.bJ
structure FT(I:aH)(d:bm):Prop where
 name:d.name.size<=9223372036854775807
 t:uA I d.t
structure vX(I:aH)(g:cE):Prop where
 a2:dX I g.a g.n g.c 3 0 (g.ds.flatMap bm.cells)
 ds:∀ d∈g.ds,FT I d
def dX.AX{a:Option Addr}{n c b iq:Nat}(h:dX I a n c size b vs)(ag:n*iq<=140737488355328):dX I a n c size iq vs:=⟨h.len,⟨h.cap.1,ag⟩,h.rd⟩
structure Nt(d:a3):Prop where
 kn:d.kn<2500
structure Uj(d:bm):Prop where
 name:d.name.size<2500
 n:d.t.n<2500
 ns:∀ cn∈d.t.ns,Nt cn
structure adI(g:cE):Prop where
 n:g.n<2500
 ds:∀ d∈g.ds,Uj d
def AW.ok(h:AW I d)(ap:Nt d):d.ok I:=
 ⟨h.k,h.fY,h.s1,h.s2,h.gM,h.ts,h.lo,h.hi,h.a2.AX (by have:=ap.kn;omega),h.aM⟩
def FT.ok{d:bm}(h:FT I d)(ap:Uj d):d.ok I:=
 ⟨by have:=ap.name;omega,⟨h.t.a2.AX (by have:=ap.n;omega),λcn cq=>(h.t.ns cn cq).ok (ap.ns cn cq),h.t.bJ⟩⟩
def vX.ok(h:vX I g)(ap:adI g):g.ok I:=
 ⟨h.a2.AX (by have:=ap.n;omega),λd ah=>(h.ds d ah).ok (ap.ds d ah)⟩
def vX.n(h:vX I g):g.ds.length=g.n:=by have:=h.a2.len;rw[g3 _ 3 bm.da]at this;omega
def uA.n{t:bB}(h:uA I t):t.ns.length=t.n:=by have:=h.a2.len;rw[g3 _ 9 a3.da]at this;omega
def e0{x r:Int}(h:x=r)(ao:-9223372036854775808<=r/\r<=9223372036854775807):IntKind.i64.wrap x=r:=by rw[h];exact wrap_i64 ao
section
variable{H:Type}{enc:TypeId×Value->H}{P:Program}{W:World}{a0:Nat}{eo:Nat->Bool}{held:Bool}
def Uk{α:Type}{p:Nat->α->Prop}:∀ (n:Nat),(∀ i,i<n->∃ d,p i d)->∃ l:List α,l.length=n/\∀ i (h:i<l.length),p i l[i]
 |0,_=>⟨[],rfl,λi h=>by simp at h⟩
 |n+1,h=>by
  obtain⟨l,U,aa⟩:=Uk n λi hi=>h i (by omega);obtain⟨d,ah⟩:=h n (by omega);refine⟨l++[d],by simp[U],λi hi=>?_⟩;by_cases aO:i<l.length;·rw[List.getElem_append_left aO];exact aa i aO
  ·have e:i=l.length:=by simp at hi;omega
   subst e;simpa[U]using ah
def Nu{f:α->List Value}(ap:0<size)(aF:∀ x,(f x).length=size)(ok:α->Prop){t e:TypeId}(au:P.underlying t=some (.slice e))(aN:P.cellsOf e=size)(eW:∀ eI cs x,DataW.trod enc P W a0 eo held eI e cs=some x->∃ d,cs=f d/\ok d){x:DataW H×List MemPlace}(h:DataW.trod enc P W a0 eo held eI t cs=some x) :
  ∃ (a:Option Addr) (n c:Nat) (l:List α),cs=[.slice a n c]/\dX (qj W) a n c size 0 (l.flatMap f)/\l.length=n/\(∀ d∈l,ok d)/\(a=none->c=0)/\c<=maxLen:=by
 rcases DataW.trod_slice au h with⟨rfl,_⟩ | ⟨a,len,cap,anO,a6,m,_,rfl,_,ag,aw,hm,bY,Nv,_,_⟩
 ·exact⟨none,0,0,[],rfl,⟨by simp,⟨b1 _,by omega⟩,.inl rfl⟩,rfl,λd ah=>by simp at ah,λ_=>rfl,by unfold maxLen;omega⟩
 have each:∀ i,i<len->∃ d,ok d/\W.cells? a0 (a.add (i*size)) size=some (f d):=λi hi=>by have U:=Nv i hi;rw[aN,fJ (by omega)]at U;obtain⟨cs',aa,ae⟩:=LY.1 U;obtain⟨d,rfl,ah⟩:=eW _ _ _ ae;exact⟨d,ah,aa⟩
 obtain⟨l,nx,Nw⟩:=Uk len each;refine⟨some a,len,cap,l,rfl,⟨by rw[g3 f size aF,nx],⟨aw,by omega⟩,?_⟩,nx,λd ah=>?_,λh=>by simp at h,hm⟩
 ·by_cases aq:len=0
  ·exact .inl aq
  right
  have jf:=(Nw 0 (by omega)).2;obtain⟨-,-,xu⟩:=World.cells?_some jf;have Jl:=xu 0 ap;rw[fJ (by rw[aF];exact ap)]at Jl;have Ul:a.spot=none:=by
   have:=World.cell?_spot Jl;cases bZ:a.spot with
   |none=>rfl| some s=>simp[Addr.add,bZ]at this
  refine⟨a,rfl,Ul,?_⟩;have Um:∀ i (hi:i<l.length),∀ k,k<size->W.cell? ⟨a.block,a.off+(i*size+k),none⟩=(f l[i])[k]?:=λi hi k af=>by obtain⟨-,-,bC⟩:=World.cells?_some (Nw i hi).2;have:=bC k af;rw[ei _ Ul,ei _ rfl]at this;rw[<-this];congr 2;simp only[];omega
  have Nx:∃ cs T aj,W.heap[a.block]?=some (.cells cs T aj):=by
   have U:=Um 0 (by omega) 0 ap;rw[fJ (by rw[aF];exact ap)]at U;unfold World.cell? at U;cases bC:W.heap[a.block]? with
   |none=>simp[bC]at U
   |some o=>
    cases o with
    |cells cs T aj=>exact⟨cs,T,aj,rfl⟩| _=>simp[bC]at U
  obtain⟨cs,T,aj,bC⟩:=Nx;refine⟨cs,T,aj,bC,?_⟩;have tk:=g3 f size aF l;apply Cr;intro j;by_cases ak:j<len*size
  ·have hdiv:j/size<l.length:=by rw[nx];exact Nat.div_lt_of_lt_mul (by rw[Nat.mul_comm];exact ak)
   have xv:=Nat.mod_lt j ap;have e:=Nat.div_add_mod j size;rw[Nat.mul_comm]at e;have U:=Um (j/size) hdiv (j%size) xv;rw[e]at U;have aa:=yB f size aF l (j/size) hdiv;have ae:(l.flatMap f)[j]?=(f l[j/size])[j%size]?:=by rw[<-aa,lW,dd xv,qO,e]
   rw[ae,<-U,lW,dd ak,qO];simp[World.cell?,bC]
  ·rw[yl (by rw[mV];omega),yl (by rw[tk,nx];omega)]
 ·obtain⟨i,hi,rfl⟩:=th ah;exact(Nw i hi).1
def AY{k:IntKind}{t:TypeId}{x:DataW H×List MemPlace}(au:P.underlying t=some (.int k))(h:DataW.trod enc P W a0 eo held eI t cs=some x):∃ n,cs=[.int k n]/\(Lit.int k n).wf=true:=by obtain⟨n,U,_,aa⟩:=DataW.trod_int au h;exact⟨n,U,aa⟩
def wf_i64{n:Int}(h:(Lit.int .i64 n).wf=true):mF n:=by simp[Lit.wf,IntKind.min,IntKind.max,IntKind.signed,IntKind.bits]at h;exact h
def wf_u64{n:Int}(h:(Lit.int .u64 n).wf=true):fo n:=by simp[Lit.wf,IntKind.min,IntKind.max,IntKind.signed,IntKind.bits]at h;unfold fo;omega
def wf_u8{n:Int}(h:(Lit.int .u8 n).wf=true):0<=n/\n<256:=by simp[Lit.wf,IntKind.min,IntKind.max,IntKind.signed,IntKind.bits]at h;omega
end
section
variable{H:Type}{enc:TypeId×Value->H}{W:World}{a0:Nat}{eo:Nat->Bool}{held:Bool}
def adJ{x:DataW H×List MemPlace}(h:DataW.trod enc Tryz.prog W a0 eo held eI 57 cs=some x) :
  ∃ (a:Option Addr) (n c:Nat) (l:List Int),cs=[.slice a n c]/\dX (qj W) a n c 1 0 (l.map (.int .i64 ·))/\l.length=n/\∀ k∈l,mF k:=by
 obtain⟨a,n,c,l,U,aa,ae,aR,-,-⟩:=Nu (f:=λk=>[Value.int .i64 k]) (size:=1) (by decide) (λ_=>rfl) mF (show Tryz.prog.underlying 57=some (.slice 3) by kernel_rfl) (by kernel_rfl)
  (λeI cs x h=>by
   obtain⟨n,U,aa⟩:=AY (show Tryz.prog.underlying 3=some (.int .i64) by kernel_rfl) h;exact⟨n,U,wf_i64 aa⟩) h
 refine⟨a,n,c,l,U,?_,ae,aR⟩;rwa [<-List.map_eq_flatMap]at aa
def adK{l:List α}(h:l.length=4):∃ a b c d,l=[a,b,c,d]:=by
 match l,h with
 |[a,b,c,d],_=>exact⟨a,b,c,d,rfl⟩
def adL{l:List α}(h:l.length=9):∃ a b c d e f g i j,l=[a,b,c,d,e,f,g,i,j]:=by
 match l,h with
 |[a,b,c,d,e,f,g,i,j],_=>exact⟨a,b,c,d,e,f,g,i,j,rfl⟩
def adM{l:List α}(h:l.length=3):∃ a b c,l=[a,b,c]:=by
 match l,h with
 |[a,b,c],_=>exact⟨a,b,c,rfl⟩
def adN{l:List α}(h:l.length=2):∃ a b,l=[a,b]:=by
 match l,h with
 |[a,b],_=>exact⟨a,b,rfl⟩
def adO{l:List α}(h:l.length=1):∃ a,l=[a]:=by
 match l,h with
 |[a],_=>exact⟨a,rfl⟩
def adP{x:DataW H×List MemPlace}(h:DataW.trod enc Tryz.prog W a0 eo held eI 56 cs=some x) :
  ∃ a b c d:Int,cs=[.int .u64 a,.int .u64 b,.int .u64 c,.int .u64 d]/\fo a/\fo b/\fo c/\fo d:=by
 obtain⟨xs,m,_,_,aw,hb,hi⟩:=Nl (show Tryz.prog.underlying 56=some (.array 4 54) by kernel_rfl) h;rw[show Tryz.prog.cellsOf 56=4 by kernel_rfl]at aw;rw[show Tryz.prog.cellsOf 54=1 by kernel_rfl]at hi;have hu:Tryz.prog.underlying 54=some (.int .u64):=by kernel_rfl
 obtain⟨a,b,c,d,rfl⟩:=adK aw;have get:∀ i,(iG:i<4)->∃ n,(([a,b,c,d]:List Value).drop (i*1)).take 1=[.int .u64 n]/\fo n:=λi iG=>by have U:=hi i iG;rw[fJ (by omega)]at U;obtain⟨n,aa,ae⟩:=AY hu U;exact⟨n,aa,wf_u64 ae⟩
 obtain⟨n0,cd,fN⟩:=get 0 (by decide);obtain⟨gm,aC,db⟩:=get 1 (by decide);obtain⟨g6,ay,cR⟩:=get 2 (by decide);obtain⟨tl,bf,eB⟩:=get 3 (by decide);simp at cd aC ay bf;subst cd aC ay bf;exact⟨_,_,_,_,rfl,fN,db,cR,eB⟩
def CS{P:Program}{t:Nat}{l:List (Nat×Nat)}(h:(match P.underlying t with
  |some (.struct cb)=>decide (cb.toList.map (λf=>(f.type,f.offset))=l)| _=>false)=true):∃ cb,P.underlying t=some (.struct cb)/\cb.toList.map (λf=>(f.type,f.offset))=l:=by
 split at h
 ·rename_i cb hu;exact⟨cb,hu,cv h⟩
 ·cases h
def Jm{P:Program}{l:List (Nat×Nat)}{q:Nat->Nat->Prop}(aF:cb.toList.map (λf=>(f.type,f.offset))=l)(h:∀ (i:Nat) (f:Field),cb[i]?=some f->q f.type f.offset):∀ (i t o:Nat),l[i]?=some (t,o)->q t o:=by subst aF;intro i t o hi;simp only[vj,sN,Prod.mk.injEq]at hi;obtain⟨f,U,rfl,rfl⟩:=hi;exact h i f (by simpa using U)
def Jn{P:Program}{t:TypeId}{x:DataW H×List MemPlace}(au:P.underlying t=some (.struct cb))(h:DataW.trod enc P W a0 eo held eI t cs=some x) :
  cs.length=P.cellsOf t/\∀ (i:Nat) (f:Field),cb[i]?=some f->∃ eI y,DataW.trod enc P W a0 eo held eI f.type ((cs.drop f.offset).take (P.cellsOf f.type))=some y:=by
 obtain⟨xs,m,_,_,aw,hb,hi⟩:=DataW.trod_struct au h;refine⟨aw,λi f aF=>?_⟩;have aO:=(lv.1 aF).1;have U:=hi i f aF;rw[fJ (by omega)]at U;exact⟨_,_,U⟩
def adQ{x:DataW H×List MemPlace}(h:DataW.trod enc Tryz.prog W a0 eo held eI 59 cs=some x):∃ d:a3,cs=d.cells/\AW (qj W) d:=by obtain⟨cb,au,aF⟩:∃ cb,Tryz.prog.underlying 59=some (.struct cb)/\cb.toList.map (λf=>(f.type,f.offset))=[(5,0),(56,1),(9,5),(3,6),(3,7),(57,8)]:=CS (by kernel_rfl);obtain⟨aw,hi⟩:=Jn au h;have hi:∀ (i t o:Nat),[(5,0),(56,1),(9,5),(3,6),(3,7),(57,8)][i]?=some (t,o)->∃ eI y,DataW.trod enc Tryz.prog W a0 eo held eI t ((cs.drop o).take (Tryz.prog.cellsOf t))=some y:=Jm (P:=Tryz.prog) aF hi;rw[show Tryz.prog.cellsOf 59=9 by kernel_rfl]at aw;obtain⟨jf,cT,c3,hc,vW,rl,xt,xw,y2,rfl⟩:=adL aw;obtain⟨_,_,aq⟩:=hi 0 _ _ rfl;obtain⟨_,_,U⟩:=hi 1 _ _ rfl;obtain⟨_,_,aa⟩:=hi 2 _ _ rfl;obtain⟨_,_,ae⟩:=hi 3 _ _ rfl;obtain⟨_,_,aR⟩:=hi 4 _ _ rfl;obtain⟨_,_,bn⟩:=hi 5 _ _ rfl;rw[show Tryz.prog.cellsOf 5=1 by kernel_rfl]at aq;rw[show Tryz.prog.cellsOf 56=4 by kernel_rfl]at U;rw[show Tryz.prog.cellsOf 9=1 by kernel_rfl]at aa;rw[show Tryz.prog.cellsOf 3=1 by kernel_rfl]at ae aR;rw[show Tryz.prog.cellsOf 57=1 by kernel_rfl]at bn;obtain⟨k,cd,adR⟩:=AY (show Tryz.prog.underlying 5=some (.int .u8) by kernel_rfl) aq;obtain⟨a,b,c,d,aC,iM,kX,oe,jM⟩:=adP U;obtain⟨s,ay,-,ws⟩:=Jb (show Tryz.prog.underlying 9=some .string by kernel_rfl) aa;obtain⟨lo,bf,wl⟩:=AY (show Tryz.prog.underlying 3=some (.int .i64) by kernel_rfl) ae;obtain⟨dw,b3,adS⟩:=AY (show Tryz.prog.underlying 3=some (.int .i64) by kernel_rfl) aR;obtain⟨hK,kn,hk,aM,eY,lB,eg,hM⟩:=adJ bn;simp at cd aC ay bf b3 eY;obtain⟨Ny,Nz,adT,adU⟩:=aC;subst cd Ny Nz adT adU ay bf b3 eY;exact⟨⟨k,a,b,c,d,s,lo,dw,hK,kn,hk,aM⟩,rfl,wf_u8 adR,iM,kX,oe,jM,wf_i64 wl,wf_i64 adS,lB,hM,by unfold maxLen at ws;omega⟩
def Un{x:DataW H×List MemPlace}(h:DataW.trod enc Tryz.prog W a0 eo held eI 28 cs=some x):∃ t:bB,cs=t.cells/\uA (qj W) t:=by obtain⟨cb,au,aF⟩:∃ cb,Tryz.prog.underlying 28=some (.struct cb)/\cb.toList.map (λf=>(f.type,f.offset))=[(26,0),(3,1)]:=CS (by kernel_rfl);obtain⟨aw,hi⟩:=Jn au h;have hi:∀ (i t o:Nat),[(26,0),(3,1)][i]?=some (t,o)->∃ eI y,DataW.trod enc Tryz.prog W a0 eo held eI t ((cs.drop o).take (Tryz.prog.cellsOf t))=some y:=Jm (P:=Tryz.prog) aF hi;rw[show Tryz.prog.cellsOf 28=2 by kernel_rfl]at aw;obtain⟨jf,cT,rfl⟩:=adN aw;obtain⟨_,_,aq⟩:=hi 0 _ _ rfl;obtain⟨_,_,U⟩:=hi 1 _ _ rfl;rw[show Tryz.prog.cellsOf 26=1 by kernel_rfl]at aq;rw[show Tryz.prog.cellsOf 3=1 by kernel_rfl]at U;obtain⟨a,n,c,l,cd,lB,an,a5,-,-⟩:=Nu (f:=a3.cells) (size:=9) (by decide) a3.da (AW (qj W)) (show Tryz.prog.underlying 26=some (.slice 59) by kernel_rfl) (by kernel_rfl) (λeI cs x h=>adQ h) aq;obtain⟨r,aC,wr⟩:=AY (show Tryz.prog.underlying 3=some (.int .i64) by kernel_rfl) U;simp at cd aC;subst cd aC;exact⟨⟨l,a,n,c,r⟩,rfl,lB,a5,wf_i64 wr⟩
def adV{x:DataW H×List MemPlace}(h:DataW.trod enc Tryz.prog W a0 eo held eI 38 cs=some x):∃ d:bm,cs=d.cells/\FT (qj W) d:=by obtain⟨cb,au,aF⟩:∃ cb,Tryz.prog.underlying 38=some (.struct cb)/\cb.toList.map (λf=>(f.type,f.offset))=[(9,0),(28,1)]:=CS (by kernel_rfl);obtain⟨aw,hi⟩:=Jn au h;have hi:∀ (i t o:Nat),[(9,0),(28,1)][i]?=some (t,o)->∃ eI y,DataW.trod enc Tryz.prog W a0 eo held eI t ((cs.drop o).take (Tryz.prog.cellsOf t))=some y:=Jm (P:=Tryz.prog) aF hi;rw[show Tryz.prog.cellsOf 38=3 by kernel_rfl]at aw;obtain⟨jf,cT,c3,rfl⟩:=adM aw;obtain⟨_,_,aq⟩:=hi 0 _ _ rfl;obtain⟨_,_,U⟩:=hi 1 _ _ rfl;rw[show Tryz.prog.cellsOf 9=1 by kernel_rfl]at aq;rw[show Tryz.prog.cellsOf 28=2 by kernel_rfl]at U;obtain⟨s,cd,-,ws⟩:=Jb (show Tryz.prog.underlying 9=some .string by kernel_rfl) aq;obtain⟨t,aC,au⟩:=Un U;simp[bB.cells]at cd aC;obtain⟨Ny,Nz⟩:=aC;subst cd Ny Nz;exact⟨⟨s,t⟩,rfl,by unfold maxLen at ws;exact ws,au⟩
def adW{x:DataW H×List MemPlace}(h:DataW.trod enc Tryz.prog W a0 eo held eI 24 cs=some x):∃ g:cE,cs=[.slice g.a g.n g.c]/\vX (qj W) g:=by obtain⟨cb,au,aF⟩:∃ cb,Tryz.prog.underlying 24=some (.struct cb)/\cb.toList.map (λf=>(f.type,f.offset))=[(22,0)]:=CS (by kernel_rfl);obtain⟨aw,hi⟩:=Jn au h;have hi:∀ (i t o:Nat),[(22,0)][i]?=some (t,o)->∃ eI y,DataW.trod enc Tryz.prog W a0 eo held eI t ((cs.drop o).take (Tryz.prog.cellsOf t))=some y:=Jm (P:=Tryz.prog) aF hi;rw[show Tryz.prog.cellsOf 24=1 by kernel_rfl]at aw;obtain⟨jf,rfl⟩:=adO aw;obtain⟨_,_,aq⟩:=hi 0 _ _ rfl;rw[show Tryz.prog.cellsOf 22=1 by kernel_rfl]at aq;obtain⟨a,n,c,l,cd,lB,an,a5,-,-⟩:=Nu (f:=bm.cells) (size:=3) (by decide) bm.da (FT (qj W)) (show Tryz.prog.underlying 22=some (.slice 38) by kernel_rfl) (by kernel_rfl) (λeI cs x h=>adV h) aq;exact⟨⟨l,a,n,c⟩,cd,lB,a5⟩
def Uo{P:Program}{w:World}{r:Reach}{t:Nat}(au:P.underlying t=some (.struct cb))(h:Value.okWide P w r a0 t v):∃ cs,v=.agg cs:=by obtain⟨cs,U,-⟩:=Go.WideShapes.okWide_struct au h;exact⟨cs,U⟩
def adX{d:DataW H}(h:DataW.Trod enc Tryz.prog W 0 (λ_=>true) true 24 v d p)(ai:Value.okWide Tryz.prog W .any a0 24 v):∃ g:cE,v=g.val/\vX (qj W) g:=by obtain⟨cb,au,-⟩:=CS (P:=Tryz.prog) (t:=24) (l:=[(22,0)]) (by kernel_rfl);obtain⟨cs,rfl⟩:=Uo au ai;obtain⟨eI,aF⟩:=h;obtain⟨g,e,aB⟩:=adW aF;refine⟨g,?_,aB⟩;have a4:cs.toList=[.slice g.a g.n g.c]:=e;cases cs;simp only at a4;subst a4;rfl
end
def Up{H:Type}{enc:TypeId×Value->H}{P:Program}(aw:laidOutB P=true){W kF:World}(af:AT W kF):∀ {ts:List TypeId} {vs:List Value} {ds:List (DataW H)} {ps:List MemPlace},(∀ t∈ts,P.readableRec t=true/\t<P.types.size) -> DataW.TrodAll enc P W 0 (λ_=>true) true ts vs ds ps->(∀ p∈ps,p.block<W.heap.size)->∀ eo:Nat->Bool,(∀ p∈ps,eo p.block=true)->DataW.TrodAll enc P kF 0 eo true ts vs ds ps
 |[],[],[],_,_,h,_,_,_=>h
 |t::ts,v::vs,d::ds,_,au,⟨p,q,U,aa,e⟩,aO,eo,ap=>by
  subst e;refine⟨p,q,?_,?_,rfl⟩
  ·refine Go.WideElems.Trod_stays aw (au t (.head _)).1 (au t (.head _)).2 U (λx ab=>?_) (λx ab=>ap x (dW.2 (.inl ab)));have bG:=aO x (dW.2 (.inl ab));cases x with
   |cell b o=>exact World.cell?_of_block (w:=W) (af.c2 b bG)| map b=>exact af.c2 b bG
  ·exact Up aw af (λt h=>au t (.tail _ h)) aa (λx ab=>aO x (dW.2 (.inr ab))) eo (λx ab=>ap x (dW.2 (.inr ab)))
def adY:mapsRowed Tryz.prog=true:=by kernel_rfl
def adZ:Tryz.prog.stopsHeard=true:=by kernel_rfl
def ad0:Tryz.prog.mayEnter=true:=by kernel_rfl
section
variable{H:Type}{enc:TypeId×Value->H}
def Uq{d:DataW H}(h:DataW.Trod enc Tryz.prog W 0 (λ_=>true) true 3 v d p)(ai:Value.okWide Tryz.prog W .any a0 3 v):∃ i:Int,v=.int .i64 i/\mF i:=by
 have au:Tryz.prog.underlying 3=some (.int .i64):=by kernel_rfl
 obtain⟨n,rfl⟩:=Go.WideShapes.okWide_int au ai;obtain⟨eI,aF⟩:=h;obtain⟨i,cd,hw⟩:=AY au aF;have aC:[Value.int .i64 n]=[Value.int .i64 i]:=cd;simp only[ta,Value.int.injEq,true_and,and_true]at aC;subst aC;exact⟨n,rfl,wf_i64 hw⟩
def ad1{d:DataW H}(h:DataW.Trod enc Tryz.prog W 0 (λ_=>true) true 9 v d p)(ai:Value.okWide Tryz.prog W .any a0 9 v):∃ s:ByteArray,v=.string s/\s.size<=9223372036854775807:=by
 have au:Tryz.prog.underlying 9=some .string:=by kernel_rfl
 obtain⟨n,rfl⟩:=Go.WideShapes.okWide_string au ai;obtain⟨eI,aF⟩:=h;obtain⟨i,cd,-,hw⟩:=Jb au aF;have aC:[Value.string n]=[Value.string i]:=cd;simp only[ta,Value.string.injEq,and_true]at aC;subst aC;exact⟨n,rfl,by unfold maxLen at hw;exact hw⟩
end
structure qk where
 d:a3
 bL:List Nat
structure b8 where
 n:Nat
 to:Nat
 aA:Nat
structure pt where
 cn:Nat
 pl:Nat
 gB:Nat
 to:Nat
 n:Nat
structure ad2 where
 kn:Nat->Nat->b8
 op:List pt
 sb:Nat
structure cu where
 ns:List qk
 s:ByteArray
 a0:Nat
def NA:a3:=⟨0,0,0,0,0,⟨#[]⟩,0,0,none,0,0,[]⟩
def cu.av(P:cu)(k:Nat):qk:=P.ns.getD k ⟨NA,[]⟩
def kH:b8:=⟨0,0,0⟩
def iS:b8:=⟨0,0,2⟩
def rm(d:a3)(b:Nat):Bool:=([d.fY,d.s1,d.s2,d.gM].getD (b/64) 0).toNat.testBit (b%64)
def preB(s t:ByteArray)(av:Nat):Bool:=decide (av+t.size<=s.size)&&decide (s.extract av (av+t.size)=t)
def pt.add(f:pt)(c:b8):pt:=⟨f.cn,f.pl,f.gB+1,c.to,min (f.n+c.n) 65537⟩
structure Jo(P:cu)(a:qk):Prop where
 k:0<=a.d.k/\a.d.k<10
 bL:∀ x∈a.bL,x<P.ns.length
 many:a.d.k=4\/a.d.k=5->0<a.bL.length
 one:a.d.k=3\/6<=a.d.k->a.bL.length=1
 l7:a.d.k=6->0<=a.d.lo/\a.d.lo<=99/\(a.d.hi=-1\/(a.d.lo<=a.d.hi/\a.d.hi<=99))
 len:a.bL.length<=1024
structure y3(P:cu):Prop where
 ns:∀ a∈P.ns,Jo P a
 a0:P.a0<=P.s.size
 size:P.s.size<=4096
structure y4(P:cu)(pl:Nat)(c:b8):Prop where
 aA:c.aA<=3
 m:c.aA=3->pl<=c.to/\c.to<=P.s.size/\c.n<=65537
 f:c.aA≠3->c.n=0/\c.to=0
def dQ(c:b8):Prop:=c.aA=2\/c.aA=3
def cu.ad3{P:cu}(h:y3 P){k:Nat}(af:k<P.ns.length):Jo P (P.av k):=by
 have:P.av k=P.ns[k]:=by simp[cu.av,dI,af]
 rw[this];exact h.ns _ (cZ af)
def jg(kn:Nat->Nat->b8)(a0:Nat):List Nat->Nat->List (Nat×Nat)
 |[],_=>[]| k::L,a=>bif Nat.beq (kn k (a-a0)).aA 3 then(bif Nat.beq (kn k (a-a0)).n 0 then jg kn a0 L (kn k (a-a0)).to else(k,a)::jg kn a0 L (kn k (a-a0)).to)else jg kn a0 L a
def ql(kn:Nat->Nat->b8)(a0:Nat):List Nat->Nat->Nat
 |[],a=>a| k::L,a=>bif Nat.beq (kn k (a-a0)).aA 3 then ql kn a0 L (kn k (a-a0)).to else ql kn a0 L a
def mK(kn:Nat->Nat->b8)(a0:Nat):List Nat->Nat->Nat
 |[],_=>0| k::L,a=>bif Nat.beq (kn k (a-a0)).aA 3 then(kn k (a-a0)).n+mK kn a0 L (kn k (a-a0)).to else mK kn a0 L a
def allM(kn:Nat->Nat->b8)(a0:Nat):List Nat->Nat->Prop
 |[],_=>True| k::L,a=>(kn k (a-a0)).aA=3/\allM kn a0 L (kn k (a-a0)).to
def l'(kn:Nat->Nat->b8)(a0:Nat):List Nat->Nat->List (Nat×Nat)
 |[],_=>[]| k::L,a=>bif Nat.beq (kn k (a-a0)).aA 3 then(bif Nat.beq (kn k (a-a0)).n 0 then []else [(k,a)])else l' kn a0 L a
def uB(kn:Nat->Nat->b8)(a0:Nat):List Nat->Nat->Prop
 |[],_=>False| k::L,a=>(kn k (a-a0)).aA=3\/((kn k (a-a0)).aA=2/\uB kn a0 L a)
inductive k6(kn:Nat->Nat->b8)(a0:Nat)(k:Nat)(hi:Int):Nat->Nat->List (Nat×Nat)->Prop
 |stop{t a:Nat}(h:(t:Int)=hi):k6 kn a0 k hi t a []| fail {t a:Nat} (h:(t:Int)≠hi) (aa:(kn k (a-a0)).aA=2):k6 kn a0 k hi t a []| more {t a:Nat} {l:List (Nat×Nat)} (ag:t<=1000000) (h:(t:Int)≠hi) (aa:(kn k (a-a0)).aA=3) (r:k6 kn a0 k hi (t+1) (kn k (a-a0)).to l):k6 kn a0 k hi t a ((bif Nat.beq (kn k (a-a0)).n 0 then []else [(k,a)])++l)
def jh(P:cu)(kn:Nat->Nat->b8)(k a:Nat)(l:List (Nat×Nat)):Prop:=
 if(P.av k).d.k=6 then k6 kn P.a0 ((P.av k).bL.getD 0 0) (P.av k).d.hi 0 a l
 else if(P.av k).d.k=5 then uB kn P.a0 (P.av k).bL a/\l=l' kn P.a0 (P.av k).bL a else allM kn P.a0 (P.av k).bL a/\l=jg kn P.a0 (P.av k).bL a
structure eD where
 name:ByteArray
 lo:Nat
 hi:Nat
def qm(P:cu)(kn:Nat->Nat->b8)(k a:Nat):List eD:=bif decide ((P.av k).d.k=9)then [⟨(P.av k).d.t,a,(kn k (a-P.a0)).to⟩]else []
inductive ga(P:cu)(kn:Nat->Nat->b8):Nat->List (Nat×Nat)->List eD->Prop
 |nil:ga P kn 0 [] []| zero {n k a a6 l} (ae:(kn k (a-P.a0)).aA=3) (h:(kn k (a-P.a0)).n=0) (r:ga P kn n a6 l):ga P kn (n+1) ((k,a)::a6) l| node {n k a parts a6 l} (ae:(kn k (a-P.a0)).aA=3) (h:(kn k (a-P.a0)).n≠0) (aK:jh P kn k a parts) (r:ga P kn n (parts++a6) l):ga P kn (n+1) ((k,a)::a6) (qm P kn k a++l)
def ga.app{P:cu}{kn:Nat->Nat->b8}{n m:Nat}{a b:List (Nat×Nat)}{l dg:List eD}(h:ga P kn n a l)(bh:ga P kn m b dg):ga P kn (n+m) (a++b) (l++dg):=by
 induction h with
 |nil=>rw[dK];exact bh| @zero n k a a6 l ae h r bc=>rw[Nat.add_right_comm];exact .zero ae h bc| @node n k a parts a6 l ae h aK r bc=>rw[Nat.add_right_comm,eL];rw[eL]at bc;exact .node ae h aK bc
def mb(l:List eD)(n:Nat):Prop:=(n<=65536->l.length=n)/\(65537<=n->65537<=l.length)
def mb.app{l dg:List eD}{n m:Nat}(h:mb l n)(bh:mb dg m):mb (l++dg) (n+m):=by unfold mb at *;rw[b5];omega
def mb.cut{l:List eD}{n:Nat}(h:mb l n):mb l (min n 65537):=by unfold mb at *;omega
def y5(kn hq:Nat->Nat->b8):Prop:=∀ k p,dQ (kn k p)->hq k p=kn k p
def NC{kn hq:Nat->Nat->b8}(h:y5 kn hq)(a0:Nat):∀ (L:List Nat) (a:Nat),allM kn a0 L a->jg hq a0 L a=jg kn a0 L a/\ql hq a0 L a=ql kn a0 L a/\mK hq a0 L a=mK kn a0 L a/\allM hq a0 L a
 |[],a,_=>⟨rfl,rfl,rfl,trivial⟩
 |k::L,a,⟨U,aa⟩=>by
  have e:=h k (a-a0) (.inr U);obtain⟨i1,i2,i3,i4⟩:=NC h a0 L _ aa;have ag:Nat.beq (kn k (a-a0)).aA 3=true:=by rw[U];rfl
  simp only[jg,ql,mK,allM,e,i1,i2,i3,ag,bg];exact⟨trivial,trivial,trivial,U,i4⟩
def Ur{kn hq:Nat->Nat->b8}(h:y5 kn hq)(a0:Nat):∀ (L:List Nat) (a:Nat),uB kn a0 L a->l' hq a0 L a=l' kn a0 L a/\uB hq a0 L a
 |[],a,U=>U.elim| k::L,a,.inl U=>by have e:=h k (a-a0) (.inr U);simp only[l',uB,e,U];exact⟨rfl,.inl trivial⟩
 |k::L,a,.inr ⟨U,aa⟩=>by have e:=h k (a-a0) (.inl U);obtain⟨i1,i2⟩:=Ur h a0 L a aa;simp only[l',uB,e,U,i1];exact⟨trivial,.inr ⟨trivial,i2⟩⟩
def k6.le{kn hq:Nat->Nat->b8}(h:y5 kn hq){k:Nat}{t a:Nat}{l:List (Nat×Nat)}(hw:k6 kn a0 k hi t a l):k6 hq a0 k hi t a l:=by
 induction hw with
 |stop U=>exact .stop U| fail U aa=>exact .fail U (by rw[h _ _ (.inl aa)];exact aa)| @more t a l ag U aa r bc=>have e:=h k (a-a0) (.inr aa);have:=k6.more (kn:=hq) (a0:=a0) (k:=k) (hi:=hi) (t:=t) (a:=a) (l:=l) ag U (by rw[e];exact aa) (by rw[e];exact bc);rwa [e]at this
def jh.le{P:cu}{kn hq:Nat->Nat->b8}(h:y5 kn hq){k a:Nat}{l:List (Nat×Nat)}(aK:jh P kn k a l):jh P hq k a l:=by
 unfold jh at aK |-;by_cases b2:(P.av k).d.k=6
 ·rw[dd b2]at aK |-;exact aK.le h
 ·rw[cG b2]at aK |-;by_cases bn:(P.av k).d.k=5
  ·rw[dd bn]at aK |-;obtain⟨i1,i2⟩:=Ur h P.a0 _ _ aK.1;exact⟨i2,by rw[i1];exact aK.2⟩
  ·rw[cG bn]at aK |-;obtain⟨i1,i2,i3,i4⟩:=NC h P.a0 _ _ aK.1;exact⟨i4,by rw[i1];exact aK.2⟩
def ga.le{P:cu}{kn hq:Nat->Nat->b8}(h:y5 kn hq){n:Nat}{l:List eD}(aB:ga P kn n L l):ga P hq n L l:=by
 induction aB with
 |nil=>exact .nil| @zero n k a a6 l ae aq r bc=>have e:=h k (a-P.a0) (.inr ae);exact .zero (by rw[e];exact ae) (by rw[e];exact aq) bc
 | @node n k a parts a6 l ae aq aK r bc=>
  have e:=h k (a-P.a0) (.inr ae);have aN:qm P kn k a=qm P hq k a:=by unfold qm;rw[e]
  rw[aN];exact .node (by rw[e];exact ae) (by rw[e];exact aq) (aK.le h) bc
inductive nf:Nat->Nat->List eD->Prop
 |nil{a b}(h:a<=b):nf a b []| app {a b c l dg} (h:nf a b l) (bh:nf b c dg):nf a c (l++dg)| cap {a b l di} (h:nf a b l):nf a b (⟨di,a,b⟩::l)
def nf.le{a b:Nat}{l:List eD}(h:nf a b l):a<=b:=by
 induction h with
 |nil h=>exact h| app _ _ U aa=>exact jD U aa| cap _ h=>exact h
structure ND(P:cu)(kn:Nat->Nat->b8)(f:pt):Prop where
 w:(kn f.cn (f.pl-P.a0)).aA=1
 many:(P.av f.cn).d.k=4\/(P.av f.cn).d.k=6->∀ L,L=(if(P.av f.cn).d.k=4 then(P.av f.cn).bL.take f.gB else List.replicate f.gB ((P.av f.cn).bL.getD 0 0)) -> allM kn P.a0 L f.pl/\f.to=ql kn P.a0 L f.pl/\f.n=min (mK kn P.a0 L f.pl) 65537
 s3:(P.av f.cn).d.k=5->∀ i,i<f.gB->(kn ((P.av f.cn).bL.getD i 0) (f.pl-P.a0)).aA=2
def y6(P:cu)(kn:Nat->Nat->b8):Prop:=∀ k p,(kn k p).aA=3->∃ n l,ga P kn n [(k,P.a0+p)] l/\mb l (kn k p).n/\nf (P.a0+p) (kn k p).to l
def ND.le{P:cu}{kn hq:Nat->Nat->b8}(h:y5 kn hq){f:pt}(ap:ND P kn f)(hw:(hq f.cn (f.pl-P.a0)).aA=1):ND P hq f:=by
 refine⟨hw,λaf L bQ=>?_,λaf i hi=>?_⟩
 ·obtain⟨U,aa,ae⟩:=ap.many af L bQ;obtain⟨i1,i2,i3,i4⟩:=NC h P.a0 _ _ U;exact⟨i4,by rw[i2];exact aa,by rw[i3];exact ae⟩
 ·have:=ap.s3 af i hi;rw[h _ _ (.inl this)];exact this
def Us{P:cu}{kn:Nat->Nat->b8}(af:∀ k p,y4 P (P.a0+p) (kn k p))(aB:y6 P kn):∀ (L:List Nat) (a:Nat),P.a0<=a->allM kn P.a0 L a->∃ n l,ga P kn n (jg kn P.a0 L a) l/\mb l (mK kn P.a0 L a)/\nf a (ql kn P.a0 L a) l
 |[],a,_,_=>⟨0,[],.nil,⟨λ_=>rfl,λh=>by simp[mK]at h⟩,.nil (b1 _)⟩
 |k::L,a,ax,⟨U,aa⟩=>by
  have aN:=af k (a-P.a0);have iz:=(aN.m U).1;obtain⟨n,l,i1,i2,i3⟩:=Us af aB L _ (by omega) aa;obtain⟨m,dg,hY,hD,h'⟩:=aB k (a-P.a0) U;rw[yY ax]at hY h';simp only[jg,mK,ql,U];rw[show Nat.beq 3 3=true from rfl,bg,bg,bg];cases aq:Nat.beq (kn k (a-P.a0)).n 0 with
  |true=>rw[bg,cM aq,dK];exact⟨n,l,i1,i2,.app (.nil (by rw[yY ax]at iz;exact iz)) i3⟩| false=>rw[bd];exact⟨m+n,dg++l,hY.app i1,hD.app i2,.app h' i3⟩
def Ut{kn:Nat->Nat->b8}{a0:Nat}:∀ (L:List Nat) (a t:Nat) (au:t<L.length),(∀ i,i<t->(kn (L.getD i 0) (a-a0)).aA=2)->(kn (L.getD t 0) (a-a0)).aA=3 -> uB kn a0 L a/\l' kn a0 L a=bif Nat.beq (kn (L.getD t 0) (a-a0)).n 0 then []else [(L.getD t 0,a)]
 |k::L,a,0,_,_,ae=>by simp only[Ja]at ae;refine⟨.inl ae,?_⟩;simp only[l',Ja,ae];rfl
 |k::L,a,t+1,au,aa,ae=>by have af:=aa 0 (by omega);simp only[Ja]at af;simp only[Ni]at ae |-;obtain⟨i1,i2⟩:=Ut L a t (by simpa using au) (λi hi=>by have:=aa (i+1) (by omega);simpa using this) ae;refine⟨.inr ⟨af,i1⟩,?_⟩;simp only[l',af];exact i2
def Uu(di:ByteArray):∀ (ds:List bm) (i:Nat),cy di ds i=bif decide (cy di ds 0<0)then -1 else cy di ds 0+i
 |[],i=>rfl
 |d::ds,i=>by
  unfold cy;cases h:decide (d.name=di)with
  |true=>
   have:decide ((((0:Nat):Int))<0)=false:=by decide
   simp[this]
  |false=>
   rw[bd,bd,Uu di ds (i+1),Uu di ds (0+1)];have ao:cy di ds 0<0\/0<=cy di ds 0:=by omega
   rcases ao with ao | ao;·rw[gX ao];rfl
   ·have e:decide (cy di ds 0<0)=false:=c0 (by omega);rw[e,bd,bd];have ay:decide (cy di ds 0+((0+1:Nat):Int)<0)=false:=c0 (by omega);rw[ay,bd];omega
def Uv(di:ByteArray)(ap bs:List bm):cy di (ap++bs) 0=bif decide (cy di ap 0<0)then cy di bs ap.length else cy di ap 0:=by
 have key:∀ (ap:List bm) (i:Nat),cy di (ap++bs) i=bif decide (cy di ap i<0)then cy di bs (i+ap.length)else cy di ap i:=by
  intro ap
  induction ap with
  |nil=>intro i;simp[cy]
  |cons d ap bc=>
   intro i;rw[qa,cy,cy];cases decide (d.name=di)with
   |true=>have:decide ((i:Int)<0)=false:=c0 (by omega);rw[bg,bg,this,bd]| false=>rw[bd,bd,bc (i+1),dL];rw[show i+1+ap.length=i+(ap.length+1)from by omega]
 have:=key ap 0;rwa [dK]at this
structure CT(ap:List bm)(bF:List (ByteArray×Int)):Prop where
 look:∀ di,(j' di bF).isSome=decide (0<=cy di ap 0)
def Uw(di:ByteArray)(p:ByteArray×Int):∀ bF:List (ByteArray×Int),(j' di (bF++[p])).isSome=((j' di bF).isSome||decide (di=p.1))
 |[]=>by
  show(bif decide (di=p.1)then some p.2 else none:Option Int).isSome=_;cases decide (di=p.1)<;>rfl
 |q::bF=>by
  rw[qa,j',j'];cases decide (di=q.1)with
  |true=>rfl| false=>rw[bd,bd,Uw di p bF]
def CT.snoc{ap:List bm}{bF:List (ByteArray×Int)}(h:CT ap bF)(d:bm)(v:Int):CT (ap++[d]) (bF++[(d.name,v)]):=by
 refine⟨λdi=>?_⟩;rw[Uw,h.look,Uv];by_cases ao:cy di ap 0<0
 ·rw[gX ao,bg,c0 (by omega:¬ 0<=cy di ap 0),tZ];unfold cy;have:decide (d.name=di)=decide (di=d.name):=decide_eq_decide.2 ⟨Eq.symm,Eq.symm⟩;rw[this];cases decide (di=d.name)with
  |true=>simp| false=>rw[bd];rfl
 ·rw[c0 ao,bd,gX (by omega:0<=cy di ap 0),y0]
def oz(ds:List bm)(i:Nat):Bool:=match ds[i]? with
 |some d=>decide (cy d.name ds 0=i)| none=>true
def ad4(d:bm)(bs:List bm)(i:Nat):cy d.name (d::bs) i=i:=by rw[cy,gX rfl];rfl
def ad5(bs:List bm):∀ (ap:List bm) (bF:List (ByteArray×Int)),CT ap bF->(∀ i,i<ap.length->oz (ap++bs) i=true) ->
  match nd bF ap.length bs with
  |none=>∃ i,i<(ap++bs).length/\oz (ap++bs) i=false/\∀ k,k<i->oz (ap++bs) k=true| some r=>CT (ap++bs) r/\∀ i,i<(ap++bs).length->oz (ap++bs) i=true:=by
 induction bs with
 |nil=>intro ap bF h aF;rw[c8]at *;exact⟨h,aF⟩
 |cons d bs bc=>
  intro ap bF h aF;have gz:(ap++d::bs)[ap.length]?=some d:=by simp
  have mU:oz (ap++d::bs) ap.length=!(j' d.name bF).isSome:=by
   unfold oz;rw[gz,h.look];simp only;rw[Uv];by_cases ao:cy d.name ap 0<0;·rw[gX ao,bg,ad4];simp;omega
   ·rw[c0 ao,bd];have aO:cy d.name ap 0<ap.length:=by
     have:∀ (ap:List bm) (i:Nat),0<=cy d.name ap i->cy d.name ap i<i+ap.length:=by
      intro ap
      induction ap with
      |nil=>intro i h;simp[cy]at h
      |cons e ap ad6=>
       intro i h;unfold cy at h |-;cases aN:decide (e.name=d.name)with
       |true=>simp;omega| false=>rw[aN,bd]at h;rw[bd];have:=ad6 (i+1) h;simp;omega
     have:=this ap 0 (by omega);omega
    have aC:decide (cy d.name ap 0=(ap.length:Int))=false:=c0 (by omega);have ay:decide (0<=cy d.name ap 0)=true:=gX (by omega);rw[aC,ay];rfl
  rw[nd];cases aw:(j' d.name bF).isSome with
  |true=>rw[aw]at mU;exact⟨ap.length,by simp,mU,aF⟩
  |false=>
   rw[aw]at mU;have:=bc (ap++[d]) (bF++[(d.name,(ap.length:Int))]) (h.snoc d _) (λi hi=>by
    rw[eL];simp at hi;rcases Nat.lt_or_eq_of_le (Nat.lt_succ_iff.1 (by omega:i<ap.length+1))with U | U;·exact aF i U
    ·rw[U];exact mU)
   rw[b5,eL]at this;exact this
def ad7:CT [] []:=⟨λdi=>by simp[j',cy]⟩
def pu(ds:List bm)(n:a3):Bool:=!decide (n.k=3)||decide (0<=cy n.t ds 0)
def Ux(p:a3->Bool):∀ (ds:List bm) (i:Nat),((ri i ds).all λx=>p x.2)=ds.all λd=>d.t.ns.all p
 |[],i=>rfl| d::ds,i=>by rw[ri,Fw,tO,Ux p ds (i+1),List.all_map];rfl
def xx(aL:List Int)(g:cE):Int:=
 bif decide ((g.n:Int)=0)then 4 else bif !pq g.ds then 4 else bif jv aL g then 40 else
 bif !(List.range g.ds.length).all (oz g.ds)then 6 else bif g.ds.all λd=>d.t.ns.all (pu g.ds)then 0 else 41
def Uy(aL:List Int)(g:cE):xx aL g=jc aL g:=by
 unfold xx jc;have h:=ad5 g.ds [] [] ad7 (λi hi=>by simp at hi);simp only[fS,lD]at h;cases ah:nd [] 0 g.ds with
 |none=>
  rw[ah]at h;obtain⟨i,U,aa,_⟩:=h;have:(List.range g.ds.length).all (oz g.ds)=false:=by rw[xq];intro eT;rw[g0]at eT;have:=eT i (j2.2 U);rw[aa]at this;cases this
  rw[this];rfl
 |some bF=>
  rw[ah]at h;obtain⟨U,aa⟩:=h;have ae:(List.range g.ds.length).all (oz g.ds)=true:=by rw[g0];intro i hi;exact aa i (j2.1 hi)
  rw[ae];have aR:(g.ds.all λd=>d.t.ns.all (pu g.ds))=sq bF g.ds:=by unfold sq;rw[Ux];congr 1;funext d;congr 1;funext n;unfold yV pu;rw[U.look]
  rw[aR];rfl
def Uz(I:aH)(c:UInt8):Spec Tryz.prog 210 [.int .u8 c.toNat] I [] (λv I' M'=>v=.bool (letter c)/\I'=I/\M'=[]):=by
 refine bU [] aT Tryz.func210 rfl rfl rfl ?_;intro B aq
 repeat' (refine bP.mk (λh=>?_) (λh=>?_))
 all_goals
  refine⟨_,_,.refl,?_⟩;refine⟨?_,rfl,rfl⟩;simp_all[letter]
  all_goals first
   |omega|(rw[pQ];simp;omega)
def ad8(I:aH)(c:UInt8):Spec Tryz.prog 211 [.int .u8 c.toNat] I [] (λv I' M'=>v=.bool (digit c)/\I'=I/\M'=[]):=by
 refine bU [] aT Tryz.func211 rfl rfl rfl ?_;intro B aq
 repeat' (refine bP.mk (λh=>?_) (λh=>?_))
 all_goals
  refine⟨_,_,.refl,?_⟩;refine⟨?_,rfl,rfl⟩;simp_all[digit]
  all_goals first
   |omega|(rw[pQ];simp;omega)
def ad9(I:aH)(s:ByteArray)(ap:s.size<=140737488355328):Spec Tryz.prog 170 [.string s] I [] (λv I' M'=>v=.string (s.extract 0 (l3 s))/\I'=I/\M'=[]):=by
 refine bU [] aT Tryz.func170 rfl rfl rfl ?_;intro B aq;have cd:∀ {s:ByteArray},l3 s=0->s.extract 0 (l3 s)=⟨#[]⟩:=λh=>by rw[h];apply qP;simp[Cc]
 refine bP.mk (λh=>?_) (λh=>?_)
 ·have U:s≠⟨#[]⟩:=by simpa using h
  have kP:0<s.size:=by refine Nat.pos_of_ne_zero λe=>U ?_;apply qP;exact ET e
  refine qQ.mk 0 rfl kP ?_;refine aZ.mk [] [] _ (.refl _) (Uz I s[0]) ?_;rintro v I' M' -⟨rfl,rfl,rfl⟩;refine aI.mk (λh=>?_) (λh=>?_)
  ·have aw:letter s[0]=false:=by simpa using h
   refine⟨_,_,.refl,?_,rfl,rfl⟩;rw[cd]
   ·unfold l3;cases ah:s.data.toList with
    |nil=>rfl
    |cons c r=>
     have:s[0]=c:=by show s.data.toList[0]=c;simp only[ah];rfl
     rw[this]at aw;simp[aw]
  ·have aw:letter s[0]=true:=by simpa using h
   refine cx.inv (ι:=Nat) (λi=>{ cc:=[(0,.val (.string s)),(3,.val (.int .i64 i))],ck:=I' }) (λi=>i<=s.size/\∀ j (h:j<s.size),1<=j->j<i->l2 s[j]=true) (λi=>s.size-i) ?_ ?_;·exact⟨0,⟨by omega,λj _ U aa=>by omega⟩,.refl,kS,.nil⟩
   ·rintro i⟨gw,gW⟩;have UA:l2 s[0]=true:=by simp[l2,aw]
    have next:∀ (aO:i<s.size),l2 s[i]=true->(i+1<=s.size/\∀ k (h:k<s.size),1<=k->k<i+1->l2 s[k]=true)/\s.size-(i+1)<s.size-i:=λaO aN=>
     ⟨⟨by omega,λj ak U aa=>by
      by_cases e:j=i;·subst e;exact aN
      ·exact gW j ak U (by omega)⟩,by omega⟩
    have out:(∀ (h:i<s.size),l2 s[i]=false)->s.extract 0 i=s.extract 0 (l3 s):=λan=>by
     have eA:1<=i:=by apply Nat.one_le_iff_ne_zero.2;intro e;subst e;rw[an kP]at UA;cases UA
     rw[S7 kP aw eA gw gW an]
    have cr:(s.extract 0 i).size<=140737488355328:=by rw[EW];omega
    have e3:IntKind.i64.wrap ((i:Int)+1)=((i+1:Nat):Int):=by rw[wrap_i64 ⟨by omega,by omega⟩];omega
    refine bP.mk (λh=>?_) (λh=>?_)
    ·have aO:i<s.size:=by simpa using h
     refine qQ.mk i rfl aO ?_;refine aZ.mk [] [] _ (.refl _) (Uz I' s[i]) ?_;rintro v I' M' -⟨rfl,rfl,rfl⟩;refine bP.mk (λh=>?_) (λh=>?_)
     ·refine qQ.mk i rfl aO ?_;refine aZ.mk [] [] _ (.refl _) (ad8 _ s[i]) ?_;rintro v I' M' -⟨rfl,rfl,rfl⟩;refine aI.mk (λaa=>?_) (λaa=>?_)
      ·refine aW.mk _ e3 ?_;exact⟨i+1,next aO (by simp only[l2];rw[show digit s[i]=true from aa];simp),.refl,kS,.nil⟩
      ·refine jl.mk 0 i rfl rfl (by omega) (by omega) ?_;refine⟨_,_,.refl,?_,rfl,rfl⟩;rw[<-out λ_=>by simp only[l2];rw[show letter s[i]=false from h,show digit s[i]=false from aa];rfl]
     ·refine aW.mk _ e3 ?_;exact⟨i+1,next aO (by simp only[l2];rw[show letter s[i]=true from h];simp),.refl,kS,.nil⟩
    ·have cI:¬ i<s.size:=by simpa using h
     refine jl.mk 0 i rfl rfl (by omega) (by omega) ?_;refine⟨_,_,.refl,?_,rfl,rfl⟩;rw[<-out λh=>(cI h).elim]
 ·have U:s=⟨#[]⟩:=by simpa using h
  subst U;refine⟨_,_,.refl,?_,rfl,rfl⟩;rw[cd];rfl
def NE(I:aH)(s:ByteArray):Spec Tryz.prog 115 [.string s] I [] (λv I' M'=>v=.bool (hA s)/\I'=I/\M'=[]):=by
 refine bU [] aT Tryz.func115 rfl rfl rfl ?_;intro B aq;refine bP.mk (λU=>?_) (λU=>?_)
 ·refine bP.mk (λaa=>?_) (λaa=>?_)
  ·have k1:s.size<=32:=by simp at aa;omega
   refine aZ.mk [] [] _ (.refl _) (ad9 I s (by omega)) ?_;rintro v I' M' -⟨rfl,rfl,rfl⟩;refine⟨_,_,.refl,?_,rfl,rfl⟩;have bk:=S8 s;have aC:(s.extract 0 (l3 s)).size=l3 s:=by rw[EW];omega
   have ay:decide (s.extract 0 (l3 s)=s)=decide (l3 s=s.size):=by
    rw[CN];constructor;·intro h;rw[<-aC,h]
    ·intro h;rw[h];apply qP;simp[Cc]
   have hO:decide (s≠⟨#[]⟩)=true:=by simpa using U
   simp only[hA,hO,pf,show decide (s.size<=32)=true from gX k1,<-ay]
  ·refine⟨_,_,.refl,?_,rfl,rfl⟩;have hO:decide (s≠⟨#[]⟩)=true:=by simpa using U
   have k1:decide (s.size<=32)=false:=by simp at aa;simp;omega
   simp only[hA,hO,k1,pf,pe]
 ·refine⟨_,_,.refl,?_,rfl,rfl⟩;have hO:decide (s≠⟨#[]⟩)=false:=by simpa using U
  simp only[hA,hO,pe]
def NF:fo 0:=⟨by decide,by decide⟩
def i0:mF 0:=⟨by decide,by decide⟩
def Jp(k:Int)(s:ByteArray):a3:=⟨k,0,0,0,0,s,0,0,none,0,0,[]⟩
def uC(d:a3):Bool:=decide (d.t=⟨#[]⟩)&&(decide (d.lo=0)&&decide (d.hi=0))
def aea(d:a3)(n:Int):Bool:=
 bif decide (d.k=0)then uC d&&decide (n=0)else
 bif decide (d.k=1)then uC d&&decide (n=0)else
 bif decide (d.k=2)then decide (d.lo=0)&&(decide (d.hi=0)&&(decide (n=0)&&(decide ((1:Int)<=d.t.size)&&decide ((d.t.size:Int)<=255))))else
 bif decide (d.k=3)then decide (d.lo=0)&&(decide (d.hi=0)&&(decide (n=0)&&hA d.t))else
 bif decide (d.k=4)||decide (d.k=5)then uC d&&decide (2<=n)else
 bif decide (d.k=6)then decide (d.t=⟨#[]⟩)&&(decide (n=1)&&(decide (0<=d.lo)&&(decide (d.lo<=99)&&(decide (d.hi=-1)||(decide (d.lo<=d.hi)&&decide (d.hi<=99))))))else
 bif decide (d.k=7)||decide (d.k=8)then uC d&&decide (n=1)else
 bif decide (d.k=9)then decide (d.lo=0)&&(decide (d.hi=0)&&(decide (n=1)&&hA d.t))else false
def FU(z:Bool)(d:a3)(n:Int):Bool:=
 bif decide (d.k=0)then z&&(uC d&&decide (n=0))else
 bif decide (d.k=1)then uC d&&decide (n=0)else
 bif decide (d.k=2)then z&&(decide (d.lo=0)&&(decide (d.hi=0)&&(decide (n=0)&&(decide ((1:Int)<=d.t.size)&&decide ((d.t.size:Int)<=255)))))else
 bif decide (d.k=3)then z&&(decide (d.lo=0)&&(decide (d.hi=0)&&(decide (n=0)&&hA d.t)))else
 bif decide (d.k=4)||decide (d.k=5)then z&&(uC d&&decide (2<=n))else
 bif decide (d.k=6)then z&&(decide (d.t=⟨#[]⟩)&&(decide (n=1)&&(decide (0<=d.lo)&&(decide (d.lo<=99)&&(decide (d.hi=-1)||(decide (d.lo<=d.hi)&&decide (d.hi<=99)))))))else
 bif decide (d.k=7)||decide (d.k=8)then z&&(uC d&&decide (n=1))else
 bif decide (d.k=9)then z&&(decide (d.lo=0)&&(decide (d.hi=0)&&(decide (n=1)&&hA d.t)))else false
def aeb(s:ByteArray):decide (s=⟨#[]⟩)=decide (s.size=0):=by
 rw[pQ];simp only[e7];constructor
 ·rintro rfl;rfl
 ·intro h;cases s with
  |mk d=>have:d.size=0:=h;simp[ET this]
def aec(af:0<=d.k/\d.k<256)(n:Int):FU d.p' d n=fits d n:=by
 by_cases o8:10<=d.k
 ·have e:fits d n=false:=by simp[fits,o8]
  rw[e];unfold FU;have h:∀ j:Int,j<10->decide (d.k=j)=false:=λj ak=>by simp;omega
  rw[h 0,h 1,h 2,h 3,h 4,h 5,h 6,h 7,h 8,h 9]<;>first | rfl | omega
 have NG:d.k=0\/d.k=1\/d.k=2\/d.k=3\/d.k=4\/d.k=5\/d.k=6\/d.k=7\/d.k=8\/d.k=9:=by omega
 generalize a1:d.p'=z;have cr:=aeb d.t;have aed:(d.t=ByteArray.empty) ↔ d.t.size=0:=by rw[<-CN];exact cr
 rcases NG with h | h | h | h | h | h | h | h | h | h<;>rw[pQ]<;>simp[FU,fits,h,a1,uC,s9,p9,m0,aed]<;>cases z<;>first | (simp;done) | grind
def cC.UB{P:Program}(aP:cY P E){t:Nat}(au:E t=some dn)(cO:dn.bK=.array 4 e)(he:E e=some aJ){k:IntKind}(k0:aJ.bK=.int k)(aB:P.eqGuardType P.depth t=false){dv dC ch dS:Int}{V:Value->Prop}(z:Bool)(a1:(d' == kx&&(cg == b'&&(dv == ch&&dC == dS)))=z)(h:V (.bool z)):cC P .eql t x y (.val (.agg #[.int k d',.int k cg,.int k dv,.int k dC])) (.val (.agg #[.int k kx,.int k b',.int k ch,.int k dS])) V other:=
 .Mj aP au cO he k0 aB (by rw[a1];exact h)
def aee(af:0<=d.k/\d.k<256)(n:Int):Spec Tryz.prog 174 [d.val,.int .i64 n] I []
  (λv I' M'=>v=.bool (fits d n)/\I'=I/\M'=[]):=by
 rw[<-aec af];obtain⟨k,fY,s1,s2,gM,s,lo,hi,hK,kn,hk,aM⟩:=d;clear af;refine bU [] aT Tryz.func174 rfl rfl rfl ?_;intro B aq;obtain⟨z,a1⟩:∃ z,a3.p' ⟨k,fY,s1,s2,gM,s,lo,hi,hK,kn,hk,aM⟩=z:=⟨_,rfl⟩;rw[a1];refine cC.UB aT (e:=54) rfl rfl rfl rfl (by kernel_rfl) z a1 ?_
 repeat' (first
  |refine bP.mk (λh=>?_) (λh=>?_)| refine aI.mk (λh=>?_) (λh=>?_)| refine cC.UB aT (e:=54) rfl rfl rfl rfl (by kernel_rfl) z a1 ?_|(refine aZ.mk [] [] _ (.refl _) (NE _ s) ?_;rintro v I' M' -⟨rfl,rfl,rfl⟩))
 all_goals clear a1
 all_goals first
  |(refine⟨_,_,.refl,?_,rfl,rfl⟩;simp_all[FU,uC];done)|(refine⟨_,_,.refl,?_,rfl,rfl⟩;simp_all[FU,uC];omega)|(exfalso;simp_all;done)|(exfalso;simp_all;omega)| skip
def y7(b:Bool):Int:=bif b then 1 else 0
def UC{i:Nat}:∀ {ks:List Int} {s:List Bool} {k:Int},k∈ks->(k<0\/(i:Int)<=k)->jO i ks s=none
 |a::ks,s,k,af,h=>by
  unfold jO;cases ag:decide (a<0)||(decide ((i:Int)<=a)||s.getD a.toNat false)with
  |true=>rfl
  |false=>
   simp only[bd];simp only[nC,oY]at ag;rcases et.1 af with rfl | af
   ·rcases h with h | h
    ·exact(ag.1 h).elim
    ·exact(ag.2.1 h).elim
   ·exact UC af h
def NH{bJ:Int}:∀ {s:List Bool} {i j:Nat},j<s.length->(s.getD j false == decide (((i+j:Nat):Int)=bJ))=true->o9 bJ i s=false
 |b::s,i,0,_,h=>by unfold o9;rw[show(b == decide ((i:Int)=bJ))=true by simpa using h];rfl
 |b::s,i,j+1,ak,h=>by
  unfold o9;cases b == decide ((i:Int)=bJ)with
  |true=>rfl| false=>simp only[bd];refine NH (j:=j) (by simpa using ak) ?_;rw[show i+1+j=i+(j+1) by omega];simpa using h
def NI{bJ:Int}:∀ {s:List Bool} {i:Nat},(∀ j,j<s.length->(s.getD j false == decide (((i+j:Nat):Int)=bJ))=false)->o9 bJ i s=true
 |[],i,h=>rfl| b::s,i,h=>by unfold o9;have aq:=h 0 (by simp);rw[show(b == decide ((i:Int)=bJ))=false by simpa using aq];simp only[bd];refine NI λj ak=>?_;have:=h (j+1) (by simpa using ak);rw[show i+1+j=i+(j+1) by omega];simpa using this
structure FV(t:bB)(P:List Int)(W:Int):Prop where
 len:P.length=t.ns.length
 jT:∀ c∈P,0<=c/\c<=W
def k7(t:bB)(P:List Int)(a6:List Bool->Option (List Bool)):Prop:=
 (∃ s:List Bool,s.length=t.ns.length/\P=s.map y7/\hB 0 t.ns (List.replicate t.ns.length false)=a6 s) \/
 (hB 0 t.ns (List.replicate t.ns.length false)=none/\∃ k,k<t.ns.length/\2<=P.getD k 0)
def tm(t:bB)(i:Nat)(s:List Bool):Option (List Bool):=hB i (t.ns.drop i) s
def vY(t:bB)(i:Nat)(d:a3)(k:Nat)(s:List Bool):Option (List Bool):=match jO i (d.aM.drop k) s with
 |some cB=>hB (i+1) (t.ns.drop (i+1)) cB| none=>none
def NJ{t:bB}(h:hB 0 t.ns (List.replicate t.ns.length false)=none):right t=false:=by simp[right,h]
def k7.start(t:bB):k7 t (List.replicate t.ns.length 0) (tm t 0):=
 .inl ⟨List.replicate t.ns.length false,by simp,by simp[y7],rfl⟩
def k7.enter{t:bB}{P:List Int}(h:k7 t P (tm t i))(hi:i<t.ns.length)(aF:fits t.ns[i] t.ns[i].aM.length=true):k7 t P (vY t i t.ns[i] 0):=by
 rcases h with⟨s,U,aa,ae⟩ | h
 ·refine .inl ⟨s,U,aa,?_⟩;rw[ae,tm,eE hi,hB,aF];rfl
 ·exact .inr h
def k7.aef{t:bB}{P:List Int}(h:k7 t P (tm t i))(hi:i<t.ns.length)(aF:fits t.ns[i] t.ns[i].aM.length=false):right t=false:=by
 refine NJ ?_;rcases h with⟨s,U,aa,ae⟩ | h
 ·rw[ae,tm,eE hi,hB,aF];rfl
 ·exact h.1
def k7.out{t:bB}{P:List Int}{k:Nat}(h:k7 t P (vY t i d k))(af:k<d.aM.length)(aF:d.aM[k]<0\/(i:Int)<=d.aM[k]):right t=false:=by
 refine NJ ?_;rcases h with⟨s,U,aa,ae⟩ | h
 ·rw[ae,vY,UC (k:=d.aM[k]) (by rw[eE af];exact .head _) aF]
 ·exact h.1
def k7.tc{t:bB}{P:List Int}{k:Nat}(aw:P.length=t.ns.length)(hi:i<=t.ns.length)(h:k7 t P (vY t i d k))(af:k<d.aM.length)(aq:0<=d.aM[k])(U:d.aM[k]<i) :
  k7 t (P.set d.aM[k].toNat (P.getD d.aM[k].toNat 0+1)) (vY t i d (k+1)):=by
 have fz:d.aM[k].toNat<P.length:=by omega
 rcases h with⟨s,aV,aX,bq⟩ | ⟨aV,j,aX,bq⟩
 ·have m6:d.aM[k].toNat<s.length:=by omega
  have aB:P.getD d.aM[k].toNat 0=y7 (s.getD d.aM[k].toNat false):=by rw[aX];simp[dI,m6]
  cases ag:s.getD d.aM[k].toNat false with
  |false=>
   refine .inl ⟨s.set d.aM[k].toNat true,by simpa using aV,?_,?_⟩;·rw[aB,ag,aX,Ih];rfl
   ·rw[bq,vY,eE af,jO,ag];simp only[Bool.or_false];rw[c0 (by omega),c0 (by omega)];rfl
  |true=>
   refine .inr ⟨?_,d.aM[k].toNat,by omega,?_⟩;·rw[bq,vY,eE af,jO,ag];simp
   ·rw[aB,ag];simp[dI,qZ,fz,y7]
 ·refine .inr ⟨aV,j,aX,?_⟩;simp only[dI,qZ]at bq |-;by_cases e:d.aM[k].toNat=j
  ·subst e;simp[fz]at bq |-;omega
  ·rw[cG e];exact bq
def k7.leave{t:bB}{P:List Int}{k:Nat}(h:k7 t P (vY t i d k))(af:d.aM.length<=k):k7 t P (tm t (i+1)):=by
 rcases h with⟨s,U,aa,ae⟩ | h
 ·refine .inl ⟨s,U,aa,?_⟩;rw[ae,vY,hJ af];rfl
 ·exact .inr h
def FV.tc{t:bB}{P:List Int}{W:Int}(h:FV t P W){k:Nat}(af:k<P.length):FV t (P.set k (P.getD k 0+1)) (W+1):=by
 refine⟨by simpa using h.len,λc aN=>?_⟩;have aB:P.getD k 0∈P:=by simp only[dI,fJ af,j1];exact cZ af
 have:=h.jT _ aB;rcases T' aN with aN | rfl
 ·have:=h.jT c aN;omega
 ·omega
def vZ(t:bB)(P:List Int)(i:Nat):Bool:=(decide ((i:Int)=t.bJ) && !decide (P.getD i 0=0))||(!decide ((i:Int)=t.bJ) && !decide (P.getD i 0=1))
def k7.bad{t:bB}{P:List Int}(h:k7 t P (tm t t.ns.length))(hi:i<t.ns.length)(az:vZ t P i=true):right t=false:=by
 rcases h with⟨s,U,aa,ae⟩ | h
 ·rw[tm,Nm,hB]at ae;have:o9 t.bJ 0 s=false:=by
   refine NH (j:=i) (by omega) ?_;have aB:P.getD i 0=y7 (s.getD i false):=by rw[aa];simp[dI,U,hi]
   rw[vZ,aB]at az;rw[dK];generalize s.getD i false=x at az |-;cases x<;>cases ah:decide ((i:Int)=t.bJ)<;>simp_all[y7]
  simp[right,ae,this]
 ·exact NJ h.1
def k7.ux{t:bB}{P:List Int}(h:k7 t P (tm t t.ns.length))(aq:0<=t.bJ/\t.bJ<t.ns.length)(az:∀ i,i<t.ns.length->vZ t P i=false):right t=true:=by
 rcases h with⟨s,U,aa,ae⟩ | ⟨U,k,aa,ae⟩
 ·rw[tm,Nm,hB]at ae;have:o9 t.bJ 0 s=true:=by
   refine NI λi hi=>?_;have aB:P.getD i 0=y7 (s.getD i false):=by rw[aa];simp[dI,hi]
   have UD:=az i (by omega);rw[vZ,aB]at UD;rw[dK];generalize s.getD i false=x at UD |-;cases x<;>cases ah:decide ((i:Int)=t.bJ)<;>simp_all[y7]
  simp[right,ae,this,aq.1,aq.2]
 ·have:=az k aa;simp only[vZ,nC,CE,oY,Az,e7]at this;omega
def CU{t:bB}(au:t.ok I)(W:Nat)(gV:∀ d∈t.ns,d.kn<=W)(ag:t.n*W<=1152921504606846976):Spec Tryz.prog 121 [t.val] I [] λv I' M'=>v=.bool (right t)/\I'=I/\M'=[]:=by
 refine bU [] aT Tryz.func121 rfl rfl rfl ?_;intro B aq;have kE:=au.n;have k2:=au.a2.cap;refine bP.mk (λh=>?_) (λh=>?_)
 rotate_left
 ·refine⟨_,_,.refl,?_,rfl,rfl⟩;have:t.bJ<0:=by simpa using h
  rw[show right t=false by simp[right];omega]
 have h6:0<=t.bJ:=by have:=ct h;omega
 refine aI.mk (λaa=>?_) (λaa=>?_)
 ·refine⟨_,_,.refl,?_,rfl,rfl⟩;have:=cv aa;rw[show right t=false by simp[right];omega]
 have h5:t.bJ<t.n:=by have:=ct aa;omega
 refine qR.mk t.n t.n rfl rfl (b1 _) (by show 8*t.n<=_;omega) (by omega) ?_;refine cw.mk λb' mD anP=>?_;refine cx.inv (ι:=Nat×List Int) (λx=>{ cc:=[(1,.ref 1 0),(3,.val (.slice (some ⟨b',0,none⟩) t.n t.n)),(4,.val (.int .i64 x.1))],cl:=[(1,t.cells)],ck:=I,de:=[mG b' x.2] }) (λx=>x.1<=t.n/\FV t x.2 (x.1*W:Nat)/\k7 t x.2 (tm t x.1)) (λx=>t.n-x.1) ?_ ?_
 ·refine⟨(0,List.replicate t.n 0),⟨bi _,⟨by simp[kE],λc aN=>by have:=List.eq_of_mem_replicate aN;simp only;omega⟩,by rw[<-kE];exact k7.start t⟩,?_,dO,.cons rfl .nil⟩;simp only[yC,mG,Ic,h4];exact .refl
 rintro⟨i,P⟩⟨hi,cP,eH⟩;simp only at hi cP eH;have anQ:=cP.len;refine aI.mk (λh=>?_) (λh=>?_)
 ·have aO:i<t.n:=by have:=cv h;omega
  have bG:i<t.ns.length:=by omega
  obtain⟨ad,bI,bl⟩:=au.a2.row a3.da aO bG;have eC:t.ns[i]∈t.ns:=cZ bG;have ah:=au.ns _ eC;have eg:=ah.kn;have UE:=gV _ eC;have aeg:=ah.a2.cap;have aeh:(i+1)*W<=1152921504606846976:=jD (rV W aO) ag;rw[iJ,o0]at aeh;refine a7.mk ad i bI rfl aO ?_;refine aD.mk _ (bl _) ?_;refine aZ.mk [] _ _ (.refl _) (aee ah.k t.ns[i].kn) ?_;rintro v eU eJ -⟨rfl,rfl,rfl⟩;rw[<-eg];refine aI.mk (λae=>?_) (λae=>?_);·refine⟨_,_,.sub (eG _) .refl,?_,rfl,rfl⟩;rw[eH.aef bG (by simpa using ae)]
  have eH:=eH.enter bG (by simpa using ae);generalize eX:t.ns[i]=d at ah eg UE aeg bl eH;refine cx.inv (ι:=Nat×List Int) (λx=>{ cc:=[(1,.ref 1 0),(3,.val (.slice (some ⟨b',0,none⟩) t.n t.n)),(4,.val (.int .i64 i)),(5,.ref 5 0),(6,.val (.int .i64 x.1))],cl:=[(1,t.cells),(5,d.cells)],ck:=eU,de:=[mG b' x.2] }) (λx=>x.1<=d.kn/\FV t x.2 (i*W+x.1:Nat)/\k7 t x.2 (vY t i d x.1)) (λx=>d.kn-x.1) ?_ ?_;·exact⟨(0,P),⟨bi _,cP,eH⟩,.refl,ja,.cons rfl (.cons rfl .nil)⟩
  rintro⟨k,Q⟩⟨af,n8,nR⟩;simp only at af n8 nR;have UF:=n8.len;refine aI.mk (λaR=>?_) (λaR=>?_)
  ·have fz:k<d.kn:=by have:=cv aR;omega
   have kz:k<d.aM.length:=by omega
   obtain⟨dh,ev,dV⟩:=ah.a2.one fz kz;refine a7.mk dh k ev rfl fz ?_;refine aD.mk _ (dV _) ?_;refine bP.mk (λbn=>?_) (λbn=>?_)
   rotate_left
   ·refine⟨_,_,.sub (eG _) .refl,?_,rfl,rfl⟩;rw[nR.out kz (.inl (by simpa using bn))]
   have dY:0<=d.aM[k]:=by have:=ct bn;omega
   refine a7.mk dh k ev rfl fz ?_;refine aD.mk _ (dV _) ?_;refine aI.mk (λb2=>?_) (λb2=>?_);·refine⟨_,_,.sub (eG _) .refl,?_,rfl,rfl⟩;rw[nR.out kz (.inr (cv b2))]
   have l4:d.aM[k]<i:=by have:=ct b2;omega
   have FW:d.aM[k].toNat<Q.length:=by omega
   have anR:0<=Q[d.aM[k].toNat]/\Q[d.aM[k].toNat]<=(i*W+k:Nat):=n8.jT _ (cZ FW);have aei:Q.getD d.aM[k].toNat 0=Q[d.aM[k].toNat]:=by simp[dI,FW]
   have UG:=nR.tc UF (by omega) kz dY l4;have UH:=n8.tc FW;rw[aei]at UG UH;refine a7.mk dh k ev rfl fz ?_;refine aD.mk _ (dV _) ?_;refine a7.mk ⟨b',0,none⟩ d.aM[k].toNat rfl (by omega) (by omega) ?_;refine aD.mk _ (Ms (s:=Q) (.head _) FW) ?_;refine aW.mk (Q[d.aM[k].toNat]+1) (e0 rfl (by omega)) ?_;refine a7.mk ⟨b',0,none⟩ d.aM[k].toNat rfl (by omega) (by omega) ?_;refine cV.add [] [] _ _ rfl ?_ rfl ?_;·simp only[qY,dx];show 0+d.aM[k].toNat*1+1<=_;omega
   have e:=Fp Q d.aM[k].toNat FW (Q[d.aM[k].toNat]+1);refine aW.mk _ (b0 (i:=k) (by omega)) ?_;refine⟨(k+1,Q.set d.aM[k].toNat (Q[d.aM[k].toNat]+1)),⟨⟨by simp only;omega,?_,UG⟩,by simp only;omega⟩,?_,ja,.cons rfl (.cons rfl .nil)⟩;·simp only;rw[show((i*W+(k+1):Nat):Int)=((i*W+k:Nat):Int)+1 by omega];exact UH
   ·simp only[mG];rw[<-e];simp only[dK,h4];exact .refl
  ·have cI:d.kn<=k:=by have:=ct aR;omega
   refine aW.mk _ (b0 (i:=i) (by omega)) ?_;refine⟨(i+1,Q),⟨⟨by simp only;omega,⟨UF,λc aN=>?_⟩,nR.leave (by omega)⟩,by simp only;omega⟩,.refl,dO,.cons rfl .nil⟩;have:=n8.jT c aN;simp only[iJ,o0];omega
 have cI:i=t.n:=by have:=ct h;omega
 have FX:k7 t P (tm t t.ns.length):=by rw[kE,<-cI];exact eH
 clear cP h hi eH;subst cI;refine cx.inv (ι:=Nat) (λx=>{ cc:=[(1,.ref 1 0),(3,.val (.slice (some ⟨b',0,none⟩) t.n t.n)),(7,.val (.int .i64 x))],cl:=[(1,t.cells)],ck:=I,de:=[mG b' P] }) (λx=>x<=t.n/\∀ j,j<x->vZ t P j=false) (λx=>t.n-x) ?_ ?_
 ·exact⟨0,⟨bi _,λj ak=>by omega⟩,.refl,dO,.cons rfl .nil⟩
 rintro i⟨hi,az⟩;refine aI.mk (λh=>?_) (λh=>?_)
 rotate_left
 ·have cI:i=t.n:=by have:=ct h;omega
  refine⟨_,_,.sub (eG _) .refl,?_,rfl,rfl⟩;rw[FX.ux ⟨h6,by omega⟩ λj ak=>az j (by omega)]
 have aO:i<t.n:=by have:=cv h;omega
 have UI:i<P.length:=by omega
 have bl:bD I [mG b' P] ((⟨b',0,none⟩:Addr).add (i*1)) 1 [.int .i64 P[i]]:=Ms (.head _) UI;have aB:P.getD i 0=P[i]:=by simp[dI,UI]
 have CV:vZ t P i=true->right t=false:=FX.bad (by omega);have CW:vZ t P i=false->∀ j,j<i+1->vZ t P j=false:=λh j ak=>by
  by_cases e:j=i;·rw[e];exact h
  ·exact az j (by omega)
 rw[vZ,aB]at CV CW;clear h az FX;generalize P[i]=c at CV CW bl;refine bP.mk (λh=>?_) (λh=>?_)
 ·rw[h]at CV CW;refine a7.mk ⟨b',0,none⟩ i rfl rfl aO ?_;refine aD.mk _ bl ?_;refine bP.mk (λaa=>?_) (λaa=>?_)
  ·refine bP.mk (λae=>?_) (λ_=>?_)
   ·exfalso;rw[h]at ae;cases ae
   ·refine aW.mk _ (b0 (i:=i) (by omega)) ?_;exact⟨i+1,⟨⟨by omega,CW (by simp[aa])⟩,by omega⟩,.refl,dO,.cons rfl .nil⟩
  ·refine⟨_,_,.sub (eG _) .refl,?_,rfl,rfl⟩;rw[CV (by simp[aa])]
 ·rw[show decide ((i:Int)=t.bJ)=false from h]at CV CW;refine bP.mk (λae=>?_) (λae=>?_)
  ·refine a7.mk ⟨b',0,none⟩ i rfl rfl aO ?_;refine aD.mk _ bl ?_;refine aI.mk (λaa=>?_) (λaa=>?_)
   ·refine⟨_,_,.sub (eG _) .refl,?_,rfl,rfl⟩;rw[CV (by simp[aa])]
   ·refine aW.mk _ (b0 (i:=i) (by omega)) ?_;exact⟨i+1,⟨⟨by omega,CW (by simp[aa])⟩,by omega⟩,.refl,dO,.cons rfl .nil⟩
  ·exfalso;rw[show decide ((i:Int)=t.bJ)=false from h]at ae;cases ae
structure UJ(I:aH)(a:Option Addr)(c:Nat)(k:Int)(s:ByteArray):Prop where
 a2:dX I a 1 c 9 96 (Jp k s).cells
def UJ.rd{a:Option Addr}{c:Nat}{k:Int}{s:ByteArray}(h:UJ I a c k s):∃ ad,a=some ad/\∀ M,bD I M (ad.add (0*9)) 9 (Jp k s).cells:=by have:=dX.row (f:=a3.cells) (l:=[Jp k s]) a3.da (size:=9) (j:=0) (by simpa using h.a2) (by decide) (b1 1);simpa using this
def bp.cn{X:cW}{o:Oper}{F:Fr}{C:dM}{K:gg}(h:bp X o F C I M (λF C I M=>(M.map (·.num)).Nodup->(∀ x∈M,I x.num=none)->K F C I M)):bp X o F C I M K:=
 ⟨λa w Q a8=>sO (λbX w'=>λ⟨en,C',I',M',⟨β,ao⟩,af⟩=>⟨en,C',I',M',⟨β,ao⟩,af ao.holds.cn ao.holds.d⟩) (h.1 a w Q a8)⟩
abbrev Jq:=bB×Int×ByteArray
def Jq.cn(x:Jq):a3:=Jp x.2.1 x.2.2
structure Jq.ok(I:aH)(x:Jq):Prop where
 t:x.1.ok I
 ns:x.1.ns=[x.cn]
 bJ:x.1.bJ=0
 fits:aea x.cn 0=true
def a3.cz(d:a3):a3:=⟨d.k,d.fY,d.s1,d.s2,d.gM,d.t,d.lo,d.hi,none,0,0,d.aM⟩
structure ia where
 z:Bool
 s:Bool
 f:Bool
 deriving DecidableEq
def ia.cells(x:ia):List Value:=[.bool x.z,.bool x.s,.bool x.f]
def ia.da(x:ia):x.cells.length=3:=rfl
structure FY(I:aH)(M:List aE)(a:Option Addr)(n:Nat)(ks:List ia):Prop where
 n:ks.length=n
 rd:∀ j (h:j<ks.length),∃ ad,a=some ad/\bD I M (ad.add (j*3)) 3 ks[j].cells
def uD:ia:=⟨false,false,false⟩
section
variable{I:aH}{M:List aE}{d:a3}{a:Option Addr}{n c:Nat}{ks:List ia}
def FY.head(af:FY I M a n ks)(aq:0<n):∃ ad,a=some ad/\bD I M (ad.add (0*3)) 3 (ks.headD uD).cells:=by
 have U:0<ks.length:=by rw[af.n];exact aq
 obtain⟨ad,aa,ae⟩:=af.rd 0 U;refine⟨ad,aa,?_⟩;cases ks with
 |nil=>simp at U| cons k ks=>exact ae
end
structure Fit(t:bB)(W:Nat):Prop where
 w:∀ d∈t.ns,d.kn<=W
 b:t.n*W<=1152921504606846976
 n:t.n<=1099511627776
def bD.sub{I:aH}{M M':List aE}{a:Addr}{n:Nat}{vs:List Value}(h:bD I M a n vs)(bb:∀ x∈M,x∈M'):bD I M' a n vs:=by obtain⟨U,cs,T,aj,aa,ae⟩:=h;refine⟨U,cs,T,aj,aa.imp id ?_,ae⟩;rintro⟨x,ab,aC,ay⟩;exact⟨x,bb x ab,aC,ay⟩
section
end
def a'.zero{os:a'}{size:Nat}{xs:List Value}(h:os.ok size xs):a'.ok ⟨os.a,0,os.c,os.aS⟩ size []:=by refine⟨by simp,λax=>⟨rfl,(h.nil ax).2⟩,λg aB=>?_⟩;obtain⟨U,aa,ae,aR⟩:=h.cap g aB;exact⟨U,bi _,ae,by simp⟩
structure ia.le(a b:ia):Prop where
 z:a.z=true->b.z=true
 s:a.s=true->b.s=true
 f:a.f=true->b.f=true
def ia.le_refl(a:ia):a.le a:=⟨id,id,id⟩
def ia.le.trans{a b c:ia}(h:a.le b)(bh:b.le c):a.le c:=⟨λx=>bh.z (h.z x),λx=>bh.s (h.s x),λx=>bh.f (h.f x)⟩
def ia.le.antisymm{a b:ia}(h:a.le b)(bh:b.le a):a=b:=by
 obtain⟨cg,dv,dC⟩:=a;obtain⟨b',ch,dS⟩:=b;have e:∀ {x y:Bool},(x=true->y=true)->(y=true->x=true)->x=y:=fun {x y} h bh=>by cases x<;>cases y<;>simp_all
 have aC:cg=b':=e h.z bh.z;have ay:dv=ch:=e h.s bh.s;have bf:dC=dS:=e h.f bh.f;subst aC ay bf;rfl
def ia.ss(a:ia):uD.le a:=⟨(λh=>by cases h),(λh=>by cases h),(λh=>by cases h)⟩
inductive kc:List ia->List ia->Prop
 |nil:kc [] []| cons {a b l m} (h:ia.le a b) (t:kc l m):kc (a::l) (b::m)
def kc.trans:∀ {a b c},kc a b->kc b c->kc a c
 |_,_,_,.nil,.nil=>.nil| _,_,_,.cons h t,.cons bh e9=>.cons (h.trans bh) (t.trans e9)
def kc.antisymm:∀ {a b},kc a b->kc b a->a=b
 |_,_,.nil,_=>rfl| _,_,.cons h t,.cons bh e9=>by rw[h.antisymm bh,t.antisymm e9]
def kc.len:∀ {a b},kc a b->a.length=b.length
 |_,_,.nil=>rfl| _,_,.cons h t=>by simp[t.len]
def kc.getD:∀ {a b},kc a b->∀ i,(a.getD i uD).le (b.getD i uD)
 |_,_,.nil,i=>by simp;exact ia.le_refl _
 |_,_,.cons h t,0=>h| _,_,.cons h t,i+1=>by simpa using t.getD i
def kc.of:∀ {a b:List ia},a.length=b.length->(∀ i,i<a.length->(a.getD i uD).le (b.getD i uD))->kc a b
 |[],[],_,_=>.nil| x::a,y::b,aw,h=>.cons (by simpa using h 0 (by simp)) (kc.of (by simpa using aw) λi hi=>by simpa using h (i+1) (by simpa using hi))
def kc.map{α:Type}{f g:α->ia}:∀ {l:List α},(∀ x∈l,(f x).le (g x))->kc (l.map f) (l.map g)
 |[],_=>.nil| x::l,h=>.cons (h x (.head _)) (kc.map λy aG=>h y (.tail _ aG))
def kc.head{a b:List ia}(h:kc a b):(a.headD uD).le (b.headD uD):=by
 cases h with
 |nil=>exact ia.le_refl _| cons h _=>exact h
def kc.ss:∀ l:List ia,kc (List.replicate l.length uD) l
 |[]=>.nil| a::l=>.cons a.ss (kc.ss l)
def FY.sub{I:aH}{M M':List aE}{a:Option Addr}{n:Nat}{ks:List ia}(h:FY I M a n ks)(bb:∀ x∈M,x∈M'):FY I M' a n ks:=
 ⟨h.n,λj ak=>by
  obtain⟨ad,U,aa⟩:=h.rd j ak;exact⟨ad,U,aa.sub bb⟩⟩
def cV.to{a:Addr}{K:List aE->Prop}(a9 post:List aE)(cs:Array Value)(T:Nat)(bb:M=a9++⟨a.block,.cells cs T (0,0)⟩::post)(ap:a.spot=none)(ag:Nat.ble (a.off+vs.length) cs.size=true)(U:gI vs=true)(cs':List Value)(he:bO cs.toList a.off vs=cs')(k:K (a9++⟨a.block,.cells cs'.toArray T (0,0)⟩::post)):cV M a vs K:=
 ⟨a9,post,cs,T,bb,ap,bN ag,U,by rw[he];exact k⟩
def bB.cz(t:bB):bB:=⟨t.ns.map a3.cz,none,t.n,0,t.bJ⟩
def bm.cz(d:bm):bm:=⟨d.name,d.t.cz⟩
def cE.cz(g:cE):cE:=⟨g.ds.map bm.cz,none,g.n,0⟩
def UK:∀ (ds:List a3) (i:Nat) (s:List Bool),hB i (ds.map a3.cz) s=hB i ds s
 |[],i,s=>rfl| d::ds,i,s=>by have h:∀ cB,hB (i+1) (ds.map a3.cz) cB=hB (i+1) ds cB:=λcB=>UK ds (i+1) cB;rw[ek,hB,hB];simp only[h];rfl
def FZ(t:bB):right t.cz=right t:=by unfold right bB.cz;simp only[UK,dx]
def UL(ns:List a3)(k:Int):fM (ns.map a3.cz) k=fM ns k:=by unfold fM;rw[jt];rfl
def UM(ns:List a3)(kind:Int):∀ ks,k4 (ns.map a3.cz) kind ks=k4 ns kind ks
 |[]=>rfl| k::ks=>by rw[k4,k4,UL,UM ns kind ks]
def UN(ns:List a3):∀ ds:List a3,k5 (ns.map a3.cz) (ds.map a3.cz)=k5 ns ds
 |[]=>rfl| d::ds=>by have h:=UM ns d.k d.aM;rw[ek,k5,k5,UN ns ds];show(bif !decide (d.k=4) && !decide (d.k=5)then k5 ns ds else bif k4 (ns.map a3.cz) d.k d.aM then k5 ns ds else false)=_;rw[h]
def aej(t:bB):normal t.cz=normal t:=by unfold normal;rw[FZ];congr 1;exact UN t.ns t.ns
def UO:∀ (ds:List a3) (i:Nat) (ee:List Int),q' i (ds.map a3.cz) ee=q' i ds ee
 |[],i,ee=>rfl| d::ds,i,ee=>by rw[ek,q',q',UO ds];rfl
def aek(t:bB):depth t.cz=depth t:=by unfold depth;rw[FZ];simp only[bB.cz,UO,dx]
def ael(t:bB):fF t.cz=fF t:=by unfold fF;rw[FZ,aek];rfl
def UP{α:Type}{z:α}{f g:a3->(Int->α)->α}(h:∀ d q,f d.cz q=g d q):∀ (ds:List a3) (bF:List α),r' z f (ds.map a3.cz) bF=r' z g ds bF
 |[],bF=>rfl| d::ds,bF=>by rw[ek,r',r',h,UP h ds]
def aem(aL:List Int)(ns:List a3)(k:Int):gf aL (ns.map a3.cz) k=gf aL ns k:=by unfold gf CG;rw[UP (g:=xk aL ns) (λd q=>?_)];show kB aL d++(oq (ot d) (λk=>paren (fT d.k (fM (ns.map a3.cz) k)) (q k)) false d.aM++jQ d)=_;simp only[UL];rfl
def aen(aL:List Int)(t:bB):ix aL t.cz=ix aL t:=by unfold ix;rw[FZ];have:gf aL t.cz.ns t.cz.bJ=gf aL t.ns t.bJ:=aem aL t.ns t.bJ;rw[this]
def aeo(aL:List Int)(d:bm):l8 aL d.cz=l8 aL d:=by unfold l8;have:ix aL d.cz.t=ix aL d.t:=aen aL d.t;rw[this];rfl
def UQ(aL:List Int):∀ (ds:List bm) (bF:List UInt8),iy aL (ds.map bm.cz) bF=iy aL ds bF
 |[],bF=>rfl| d::ds,bF=>by rw[ek,iy,iy,aeo,UQ aL ds]
def aep(g:cE):ow g.cz=ow g:=by unfold ow cE.cz;rw[jt];congr 1;refine yJ λd _=>?_;show lJ d.t.cz=lJ d.t;unfold lJ;rw[FZ];rfl
def UR{q:bm->Bool}(h:∀ d,q d.cz=q d)(ds:List bm):(ds.map bm.cz).all q=ds.all q:=by rw[List.all_map];congr 1;funext d;exact h d
def aeq(aL:List Int)(g:cE):jv aL g.cz=jv aL g:=by unfold jv;rw[aep];have U:(g.cz.ds.all λd=>fF d.t)=g.ds.all λd=>fF d.t:=UR (λd=>ael d.t) g.ds;have aa:iy aL g.cz.ds []=iy aL g.ds []:=UQ aL g.ds [];rw[U,aa];rfl
def aer(ds:List bm):pq (ds.map bm.cz)=pq ds:=UR (q:=λd=>hA d.name&&normal d.t) (λd=>by
 show(hA d.name&&normal d.t.cz)=_;rw[aej]) ds
def US:∀ (ds:List bm) (bF:List (ByteArray×Int)) (i:Nat),nd bF i (ds.map bm.cz)=nd bF i ds
 |[],bF,i=>rfl| d::ds,bF,i=>by rw[ek,nd,nd];show(bif (j' d.name bF).isSome then none else nd (bF++[(d.name,(i:Int))]) (i+1) (ds.map bm.cz))=_;rw[US ds]
def UT:∀ (ds:List bm) (i:Nat),ri i (ds.map bm.cz)=(ri i ds).map λp=>(p.1,p.2.cz)
 |[],i=>rfl| d::ds,i=>by rw[ek,ri,ri,UT ds,fC,jt];show(d.t.ns.map a3.cz).map (λn=>(i,n))++_=_;rw[jt];rfl
def aes(bF:List (ByteArray×Int))(ds:List bm):sq bF (ds.map bm.cz)=sq bF ds:=by unfold sq;rw[UT,List.all_map];rfl
def UU(aL:List Int)(g:cE):jc aL g.cz=jc aL g:=by unfold jc;rw[aeq];have U:pq g.cz.ds=pq g.ds:=aer g.ds;have aa:nd [] 0 g.cz.ds=nd [] 0 g.ds:=US g.ds [] 0;have ae:∀ bF,sq bF g.cz.ds=sq bF g.ds:=λbF=>aes bF g.ds;rw[U,aa];simp only[ae];rfl
structure UW(I:aH)(t:bB)(l:List a3):Prop where
 ok:t.ok I
 cz:t.ns.map a3.cz=l
 bJ:t.bJ=(l.length:Int)-1
def UW.len{t:bB}{l:List a3}(h:UW I t l):t.n=l.length:=by rw[<-h.ok.n,<-h.cz,dx]
def v0(ns:List a3):List Int:=ns.flatMap (·.aM)
def xy(l:List Int):Prop:=l.Pairwise (·≠·)
def CX(s:List Bool)(l:List Int):Prop:=∀ j,s.getD j false=true ↔ ((j:Int)∈l/\j<s.length)
def UX{i:Nat}:∀ {ks seen:List Int} {s:List Bool},i<=s.length->CX s seen->xy seen -> ((∃ cB,jO i ks s=some cB) ↔ ((∀ k∈ks,0<=k/\k<i)/\xy (seen++ks)))/\∀ cB,jO i ks s=some cB->cB.length=s.length/\CX cB (seen++ks)
 |[],seen,s,hi,hm,ah=>by refine⟨⟨λ_=>⟨λk af=>by(cases af),by simpa using ah⟩,λ_=>⟨s,rfl⟩⟩,λcB h=>?_⟩;simp only[jO,lx]at h;subst h;exact⟨rfl,by simpa using hm⟩
 |k::ks,seen,s,hi,hm,ah=>by
  unfold jO;cases ag:decide (k<0)||(decide ((i:Int)<=k)||s.getD k.toNat false)with
  |true=>
   refine⟨⟨λ⟨cB,h⟩=>(by cases h),λ⟨U,aa⟩=>?_⟩,λcB h=>by cases h⟩;exfalso;have ae:=U k (.head _);simp only[r4,e7]at ag;rcases ag with ag | ag | ag;·omega
   ·omega
   ·have:=(hm _).1 ag;rw[Ay ae.1]at this;exact(Nh.1 aa).2.2 k this.1 k (.head _) rfl
  |false=>
   simp only[nC,oY]at ag;obtain⟨b',ch,dS⟩:=ag;have af:k.toNat<s.length:=by omega
   have oy:k ∉ seen:=λh=>by have:=(hm k.toNat).2 ⟨by rw[Ay (by omega)];exact h,af⟩;rw[dS]at this;cases this
   have jK:CX (s.set k.toNat true) (seen++[k]):=λj=>by
    have:=hm j;simp only[dI,qZ,AS,dW,iu]at this |-;by_cases e:k.toNat=j;·subst e;rw[dd rfl,dd af];simp only[j1,true_iff];exact⟨.inr (by omega),af⟩
    ·rw[cG e,this];constructor
     ·rintro⟨U,aa⟩;exact⟨.inl U,aa⟩
     ·rintro⟨U | U,aa⟩
      ·exact⟨U,aa⟩
      ·omega
   have hI:xy (seen++[k]):=Nh.2 ⟨ah,by simp,λa ax b ag e=>by
    simp only[iu]at ag;subst ag;subst e;exact oy ax⟩
   have bc:=UX (i:=i) (ks:=ks) (seen:=seen++[k]) (s:=s.set k.toNat true) (by simpa using hi) jK hI;simp only[bd];rw[eL,List.singleton_append]at bc;refine⟨bc.1.trans ⟨λ⟨U,aa⟩=>⟨λx ab=>?_,aa⟩,λ⟨U,aa⟩=>⟨λx ab=>U x (.tail _ ab),aa⟩⟩,λcB h=>?_⟩
   ·rcases et.1 ab with rfl | ab
    ·omega
    ·exact U x ab
   ·have:=bc.2 cB h;simpa using this
def UY:∀ {ds:List a3} {i:Nat} {seen:List Int} {s:List Bool},i+ds.length<=s.length->CX s seen->xy seen -> ((∃ cB,hB i ds s=some cB) ↔ ((∀ j (h:j<ds.length),fits ds[j] ds[j].aM.length=true/\∀ k∈ds[j].aM,0<=k/\k<i+j)/\xy (seen++v0 ds)))/\∀ cB,hB i ds s=some cB->cB.length=s.length/\CX cB (seen++v0 ds)
 |[],i,seen,s,hi,hm,ah=>by refine⟨⟨λ_=>⟨λj ak=>by simp at ak,by simpa[v0]using ah⟩,λ_=>⟨s,rfl⟩⟩,λcB h=>?_⟩;simp only[hB,lx]at h;subst h;exact⟨rfl,by simpa[v0]using hm⟩
 |d::ds,i,seen,s,hi,hm,ah=>by
  unfold hB;have af:=UX (i:=i) (ks:=d.aM) (by simp at hi;omega) hm ah;have eT:v0 (d::ds)=d.aM++v0 ds:=rfl;cases aF:fits d d.aM.length with
  |false=>refine⟨⟨λ⟨cB,h⟩=>(by cases h),λ⟨U,aa⟩=>?_⟩,λcB h=>by cases h⟩;have:=(U 0 (by simp)).1;simp only[Ae]at this;rw[aF]at this;cases this
  |true=>
   simp only[bg];cases az:jO i d.aM s with
   |none=>
    refine⟨⟨λ⟨cB,h⟩=>(by cases h),λ⟨U,aa⟩=>?_⟩,λcB h=>by cases h⟩;exfalso;have:∃ cB,jO i d.aM s=some cB:=af.1.2 ⟨λk af=>by
     have:=(U 0 (by simp)).2 k af;omega,by
     rw[eT,<-eL]at aa;exact(Nh.1 aa).1⟩
    obtain⟨cB,h⟩:=this;rw[az]at h;cases h
   |some s1=>
    obtain⟨k8,dG⟩:=af.2 s1 az;obtain⟨k9,d1⟩:=af.1.1 ⟨s1,az⟩;have bc:=UY (ds:=ds) (i:=i+1) (seen:=seen++d.aM) (s:=s1) (by simp at hi;omega) dG d1;rw[eL,<-eT]at bc;simp only;refine⟨bc.1.trans ⟨λ⟨U,aa⟩=>⟨λj ak=>?_,aa⟩,λ⟨U,aa⟩=>⟨λj ak=>?_,aa⟩⟩,λcB h=>?_⟩
    ·cases j with
     |zero=>exact⟨aF,λk af=>by have:=k9 k af;omega⟩| succ j=>have:=U j (by simpa using ak);refine⟨this.1,λk af=>?_⟩;have:=this.2 k af;omega
    ·have:=U (j+1) (by simpa using ak);refine⟨this.1,λk af=>?_⟩;have:=this.2 k af;omega
    ·have:=bc.2 cB h;exact⟨this.1.trans k8,this.2⟩
def aet(n:Nat):CX (List.replicate n false) []:=λj=>by
 by_cases h:j<n<;>simp[dI,List.getElem?_replicate,h]
structure CY(t:bB):Prop where
 bJ:0<=t.bJ/\t.bJ<t.ns.length
 fits:∀ j (h:j<t.ns.length),fits t.ns[j] t.ns[j].aM.length=true
 aM:∀ j (h:j<t.ns.length),∀ k∈t.ns[j].aM,0<=k/\k<j
 diff:xy (v0 t.ns)
 all:∀ j:Nat,j<t.ns.length->((j:Int)∈v0 t.ns ↔ (j:Int)≠t.bJ)
def NK{t:bB}:right t=true ↔ CY t:=by
 have h:=UY (ds:=t.ns) (i:=0) (seen:=[]) (s:=List.replicate t.ns.length false) (by simp) (aet _) (by simp[xy]);simp only[lD,dK,CD]at h;unfold right;constructor
 ·intro ao;simp only[cA,e7]at ao;obtain⟨k9,hX,lL⟩:=ao;split at lL
  ·rename_i s ap;obtain⟨dJ,c9⟩:=h.1.1 ⟨s,ap⟩;obtain⟨dG,m2⟩:=h.2 s ap;refine⟨⟨k9,hX⟩,λj ak=>(dJ j ak).1,λj ak k af=>(by have:=(dJ j ak).2 k af;omega),c9,λj ak=>?_⟩;have ag:(s.getD j false == decide (((0+j:Nat):Int)=t.bJ))=false:=by
    cases ag:(s.getD j false == decide (((0+j:Nat):Int)=t.bJ))with
    |false=>rfl| true=>have:=NH (by omega) ag;rw[this]at lL;cases lL
   rw[dK]at ag;have hm:=m2 j;constructor;·intro ab e;have:=hm.2 ⟨ab,by omega⟩;rw[this,gX e]at ag;cases ag
   ·intro bu;rw[c0 bu]at ag;have:s.getD j false=true:=by
     revert ag;cases s.getD j false<;>simp
    exact(hm.1 this).1
  ·cases lL
 ·intro ao;obtain⟨s,ap⟩:=h.1.2 ⟨λj ak=>⟨ao.fits j ak,λk af=>by have:=ao.aM j ak k af;omega⟩,ao.diff⟩;obtain⟨dG,m2⟩:=h.2 s ap;rw[ap];simp only[cA,e7];refine⟨ao.bJ.1,ao.bJ.2,NI λj ak=>?_⟩;rw[dK];have ax:=ao.all j (by omega);have hm:=m2 j;by_cases e:(j:Int)=t.bJ
  ·have aF:s.getD j false=false:=by
    cases ag:s.getD j false with
    |false=>rfl| true=>exact absurd e (ax.1 (hm.1 ag).1)
   rw[aF,gX e];rfl
  ·have:=hm.2 ⟨ax.2 e,by omega⟩;rw[this,c0 e];rfl
section
end
def ng:Nat->List bm->List (Nat×a3)
 |_,[]=>[]| b,d::ds=>d.t.ns.map (λn=>(b,n))++ng (b+d.t.ns.length) ds
def ff:Nat->List bm->List Nat
 |_,[]=>[]| b,d::ds=>(b+d.t.bJ.toNat)::ff (b+d.t.ns.length) ds
def bz(ds:List bm):Nat:=(ds.map λd=>d.t.ns.length).sum
def eR(ds:List bm)(b:Nat)(n:a3):List Nat:=bif decide (n.k=3)then [(ff 0 ds).getD (cy n.t ds 0).toNat 0]else n.aM.map λk=>b+k.toNat
def kI(ds:List bm):List qk:=(ng 0 ds).map λp=>⟨p.2,eR ds p.1 p.2⟩
def rn(g:cE)(s:ByteArray)(av:Nat):cu:=⟨kI g.ds,s,av⟩
def F0:∀ (b:Nat) (ds:List bm),(ng b ds).length=bz ds
 |b,[]=>rfl| b,d::ds=>by have:=F0 (b+d.t.ns.length) ds;simp only[ng,bz,b5,dx,ek,ug]at this |-;omega
def v3:∀ (b:Nat) (ds:List bm),(ff b ds).length=ds.length
 |b,[]=>rfl| b,d::ds=>by simp only[ff,dL,v3 _ ds]
def y8:∀ (b:Nat) (ds:List bm),(∀ d∈ds,0<=d.t.bJ/\d.t.bJ<d.t.ns.length)->∀ x∈ff b ds,x<b+bz ds
 |b,[],_,x,ab=>by cases ab
 |b,d::ds,h,x,ab=>by
  have ah:=h d (.head _);have e:bz (d::ds)=d.t.ns.length+bz ds:=by simp[bz]
  rcases et.1 ab with rfl | ab;·omega
  ·have:=y8 (b+d.t.ns.length) ds (λd ah=>h d (.tail _ ah)) x ab;omega
def UZ:∀ (b:Nat) (ds:List bm) (p:Nat×a3),p∈ng b ds->∃ d∈ds,p.2∈d.t.ns/\p.1+d.t.ns.length<=b+bz ds
 |b,[],p,h=>by cases h
 |b,d::ds,p,h=>by
  have e:bz (d::ds)=d.t.ns.length+bz ds:=by simp[bz]
  rcases dW.1 h with h | h;·obtain⟨n,an,rfl⟩:=dp.1 h;exact⟨d,.head _,an,by show b+d.t.ns.length<=_;omega⟩
  ·obtain⟨xz,U,aa,ae⟩:=UZ _ ds p h;exact⟨xz,.tail _ U,aa,by omega⟩
def CZ:∀ (n:Nat) (l:List Int),xy l->(∀ k∈l,0<=k/\k<n)->l.length<=n
 |0,[],_,_=>b1 _| 0,k::l,_,h=>by have:=h k (.head _);omega
 |n+1,l,ah,h=>by
  have U:=CZ n (l.filter λk=>decide (k≠(n:Int))) (ah.filter _) λk af=>by have aa:=yq.1 af;have ae:=cv aa.2;have aR:=h k aa.1;omega
  have aa:∀ l:List Int,xy l->l.length<=(l.filter λk=>decide (k≠(n:Int))).length+1:=by
   intro l
   induction l with
   |nil=>intro _;simp
   |cons a l bc=>
    intro ah;obtain⟨d1,d2⟩:=List.pairwise_cons.1 ah;by_cases e:a=(n:Int);·have:l.filter (λk=>decide (k≠(n:Int)))=l:=List.filter_eq_self.2 λk af=>gX λay=>d1 k af (e.trans ay.symm);rw[List.filter_cons_of_neg (by simp[e]),this,dL];exact b1 _
    ·have:=bc d2;rw[List.filter_cons_of_pos (by simp[e]),dL,dL];omega
  have:=aa l ah;omega
def C0{di:ByteArray}:∀ (ds:List bm) (i:Nat),0<=cy di ds i->cy di ds i<((i+ds.length:Nat):Int)
 |[],i,h=>by simp[cy]at h
 |d::ds,i,h=>by
  unfold cy at h |-;cases aN:decide (d.name=di)with
  |true=>simp only[bg,dL];omega| false=>rw[aN,bd]at h;have:=C0 ds (i+1) h;simp only[bd,dL];omega
structure me(g:cE):Prop where
 n:g.n≠0
 r:∀ d∈g.ds,CY d.t
 find:∀ d∈g.ds,∀ n∈d.t.ns,n.k=3->0<=cy n.t g.ds 0
 AZ:bz g.ds<=1024
 NL:g.n<=64
def NM{aL:List Int}(h:jc aL g=0)(an:∀ d∈g.ds,d.t.ns.length=d.t.n):me g:=by
 rw[<-Uy]at h;unfold xx at h;cases U:decide ((g.n:Int)=0)with
 |true=>rw[U]at h;cases h
 |false=>
  rw[U,bd]at h;cases aa:pq g.ds with
  |false=>rw[aa]at h;cases h
  |true=>
   rw[aa,nE,bd]at h;cases ae:jv aL g with
   |true=>rw[ae]at h;cases h
   |false=>
    rw[ae,bd]at h;cases aR:!(List.range g.ds.length).all (oz g.ds)with
    |true=>rw[aR]at h;cases h
    |false=>
     rw[aR,bd]at h;cases bn:g.ds.all λd=>d.t.ns.all (pu g.ds)with
     |false=>rw[bn]at h;cases h
     |true=>
      have ao:∀ d∈g.ds,right d.t=true:=λd ah=>by have:=g0.1 aa d ah;simp only[normal,cA]at this;exact this.2.1
      refine⟨λe=>by have:=ct U;omega,λd ah=>NK.1 (ao d ah),λd ah n an ae=>?_,?_,?_⟩;·have:=g0.1 (g0.1 bn d ah) n an;simp only[pu,ae,FM,nE,tZ,e7]at this;exact this
      ·have e:bz g.ds=ow g:=by unfold bz ow;congr 1;refine yJ λd ah=>?_;rw[lJ,ao d ah,bg];exact an d ah
       unfold jv at ae;simp only[nC,oY]at ae;omega
      ·unfold jv at ae;simp only[nC,oY]at ae;omega
def NN(aq:0<=d.k){n:Nat}(h:fits d n=true):d.k<10/\(d.k=4\/d.k=5->2<=n)/\(6<=d.k->n=1)/\(d.k=6->0<=d.lo/\d.lo<=99/\(d.hi=-1\/(d.lo<=d.hi/\d.hi<=99)))/\(d.k=9->hA d.t=true)/\(d.k=2->d.t.size<=255):=by
 unfold fits at h;cases U:decide (10<=d.k)with
 |true=>rw[U]at h;cases h
 |false=>
  have o8:d.k<10:=by have:=ct U;omega
  rw[U,bd]at h;cases aa:decide ((n:Int)<s9 d.k.toNat)||(decide (0<=p9 d.k.toNat)&&decide (p9 d.k.toNat<(n:Int)))with
  |true=>rw[aa]at h;cases h
  |false=>
   rw[aa,bd]at h;simp only[nC,CE,oY]at aa;refine⟨o8,λaf=>?_,λaf=>?_,λaf=>?_,λaf=>?_,λaf=>?_⟩
   ·have:s9 d.k.toNat=2:=by rcases af with e | e<;>rw[e]<;>rfl
    omega
   ·have kJ:d.k=6\/d.k=7\/d.k=8\/d.k=9:=by omega
    have aC:s9 d.k.toNat=1:=by rcases kJ with e | e | e | e<;>rw[e]<;>rfl
    have ay:p9 d.k.toNat=1:=by rcases kJ with e | e | e | e<;>rw[e]<;>rfl
    omega
   ·rw[af]at h;have bh:((!(decide (d.lo<0)||(decide (99<d.lo)||(decide (d.hi≠-1)&&(decide (d.hi<d.lo)||decide (99<d.hi))))))&&(d.p'&&decide (d.t=⟨#[]⟩)))=true:=h;simp only[cA,pY,nC,CE,oY,Decidable.not_not]at bh;omega
   ·rw[af]at h;have bh:(hA d.t&&(d.p'&&(decide (d.lo=0)&&decide (d.hi=0))))=true:=h;simp only[cA]at bh;exact bh.1
   ·rw[af]at h;have bh:((!(decide (d.t=⟨#[]⟩)||decide (255<d.t.size)))&&(d.p'&&(decide (d.lo=0)&&decide (d.hi=0))))=true:=h;simp only[cA,pY,nC,oY]at bh;omega
def C1:∀ {ns:List a3} {n:a3},n∈ns->n.aM.Sublist (v0 ns)
 |d::ns,n,h=>by
  unfold v0;rw[pZ];rcases et.1 h with rfl | h;·exact FJ _ _
  ·exact(C1 h).trans (lC _ _)
def aeu(hm:me g)(dY:∀ d∈g.ds,∀ n∈d.t.ns,0<=n.k){s:ByteArray}{av:Nat}{a:qk}(ax:a∈kI g.ds):Jo (rn g s av) a:=by
 have bY:(rn g s av).ns.length=bz g.ds:=by simp[rn,kI,F0]
 obtain⟨p,aK,rfl⟩:=dp.1 ax;obtain⟨d,ah,an,ag⟩:=UZ _ _ _ aK;have ao:=hm.r d ah;obtain⟨j,ak,e⟩:=th an;have aF:=ao.fits j ak;rw[e]at aF;obtain⟨f1,f2,f3,f4,-,-⟩:=NN (dY d ah _ an) aF;have hM:=ao.aM j ak;rw[e]at hM;have fz:p.2.aM.length<=j:=CZ j _ (ao.diff.sublist (C1 an)) hM;have rp:=hm.AZ;by_cases ae:p.2.k=3
 ·have pw:eR g.ds p.1 p.2=[(ff 0 g.ds).getD (cy p.2.t g.ds 0).toNat 0]:=by rw[eR,gX ae,bg]
  have az:=hm.find d ah _ an ae;have C2:=C0 g.ds 0 az;have fa:(cy p.2.t g.ds 0).toNat<(ff 0 g.ds).length:=by rw[v3];omega
  refine⟨⟨dY d ah _ an,f1⟩,λx ab=>?_,λh=>?_,λ_=>by simp only[pw];rfl,λh=>?_,by simp only[pw];exact bN rfl⟩;·simp only[pw,iu]at ab;rw[bY,ab,dI,fJ fa,j1];have:=y8 0 g.ds (λd ah=>(hm.r d ah).bJ) _ (cZ fa);omega
  ·have bh:p.2.k=4\/p.2.k=5:=h;omega
  ·have bh:p.2.k=6:=h;omega
 ·have pw:eR g.ds p.1 p.2=p.2.aM.map λk=>p.1+k.toNat:=by rw[eR,c0 ae,bd]
  refine⟨⟨dY d ah _ an,f1⟩,λx ab=>?_,λh=>?_,λh=>?_,λh=>f4 h,?_⟩;·simp only[pw]at ab;obtain⟨k,af,rfl⟩:=dp.1 ab;have:=hM k af;rw[bY];omega
  ·have:=f2 h;simp only[pw,dx];omega
  ·have bh:p.2.k=3\/6<=p.2.k:=h;have:=f3 (by omega);simp only[pw,dx];exact this
  ·simp only[pw,dx];have:d.t.ns.length<=bz g.ds:=by omega
   omega
def NO(hm:me g)(dY:∀ d∈g.ds,∀ n∈d.t.ns,0<=n.k){s:ByteArray}{av:Nat}(U:av<=s.size)(aa:s.size<=4096):y3 (rn g s av):=
 ⟨λa ax=>aeu hm dY ax,U,aa⟩
def jw(g:cE)(rule:Nat):Nat:=(ff 0 g.ds).getD rule 0
def U0(hm:me g){rule:Nat}(h:rule<g.ds.length)(s:ByteArray)(av:Nat):jw g rule<(rn g s av).ns.length:=by
 have aw:rule<(ff 0 g.ds).length:=by rw[v3];exact h
 have e:(rn g s av).ns.length=bz g.ds:=by simp[rn,kI,F0]
 rw[e,jw,dI,fJ aw,j1];have:=y8 0 g.ds (λd ah=>(hm.r d ah).bJ) _ (cZ aw);omega
def nh:ad2:=⟨λ_ _=>kH,[],0⟩
def k6.y9{kn:Nat->Nat->b8}{k:Nat}{t a:Nat}{l dg:List (Nat×Nat)}(h:k6 kn a0 k hi t a l)(bh:k6 kn a0 k hi t a dg):l=dg:=by
 induction h generalizing dg with
 |stop U=>
  cases bh with
  |stop=>rfl| fail aa=>exact absurd U aa| more _ aa=>exact absurd U aa
 |fail U aa=>
  cases bh with
  |stop ae=>exact absurd ae U| fail=>rfl| more _ ae aR=>rw[aa]at aR;cases aR
 |more _ U aa r bc=>
  cases bh with
  |stop ae=>exact absurd ae U| fail ae aR=>rw[aa]at aR;cases aR| more _ ae aR r2=>rw[bc r2]
def jh.y9{P:cu}{kn:Nat->Nat->b8}{k a:Nat}{l dg:List (Nat×Nat)}(h:jh P kn k a l)(bh:jh P kn k a dg):l=dg:=by
 unfold jh at h bh;by_cases b2:(P.av k).d.k=6
 ·rw[dd b2]at h bh;exact h.y9 bh
 ·rw[cG b2]at h bh;by_cases bn:(P.av k).d.k=5
  ·rw[dd bn]at h bh;exact h.2.trans bh.2.symm
  ·rw[cG bn]at h bh;exact h.2.trans bh.2.symm
def ga.y9{P:cu}{kn:Nat->Nat->b8}{n m:Nat}{l dg:List eD}(h:ga P kn n L l)(bh:ga P kn m L dg):l=dg:=by
 induction h generalizing m dg with
 |nil=>cases bh;rfl
 |zero ae aq r bc=>
  cases bh with
  |zero iR mX r2=>exact bc r2| node iR mX=>exact absurd aq mX
 |node ae aq aK r bc=>
  cases bh with
  |zero iR mX=>exact absurd mX aq| node iR mX CO r2=>cases aK.y9 CO;rw[bc r2]
structure rq where
 ok:Bool
 to:Nat
 caps:List eD
def e1(a b:Nat):Nat:=min (a+b) 1099511627776
def fO(m:Nat->Nat->b8):List Nat->Nat->Nat->b8
 |[],a,n=>⟨n,a,3⟩| q::L,a,n=>bif Nat.beq (m q a).aA 3 then fO m L (m q a).to (e1 n (m q a).n)else⟨0,0,(m q a).aA⟩
def gb(m:Nat->Nat->b8):List Nat->Nat->b8
 |[],_=>iS| q::L,a=>bif Nat.beq (m q a).aA 2 then gb m L a else m q a
def ej(m:Nat->Nat->b8)(q:Nat)(lo hi:Int):Nat->Nat->Nat->Nat->b8
 |0,_,a,n=>bif decide (hi=-1)then kH else⟨n,a,3⟩
 |j+1,i,a,n=>bif Nat.beq (m q a).aA 2 then(bif decide ((i:Int)<lo)then iS else⟨n,a,3⟩)else
   bif Nat.beq (m q a).aA 3 then(bif decide (hi=-1)&&decide ((m q a).to=a)then kH else ej m q lo hi j (i+1) (m q a).to (e1 n (m q a).n))else kH
def xA(P:cu)(d:a3)(a:Nat):Nat:=bif decide (d.hi=-1)then P.s.size+1-a else d.hi.toNat
def cX(P:cu)(m:Nat->Nat->b8)(k a:Nat):b8:=
 let d:=(P.av k).d
 let q:=(P.av k).bL.getD 0 0
 bif decide (d.k=0)then⟨0,a,3⟩else
 bif decide (d.k=1)then(match P.s.data[a]? with
  |some b=>bif rm d b.toNat then⟨0,a+1,3⟩else iS| none=>iS)else
 bif decide (d.k=2)then(bif preB P.s d.t a then⟨0,a+d.t.size,3⟩else iS)else
 bif decide (d.k=3)then m q a else
 bif decide (d.k=4)then fO m (P.av k).bL a 0 else
 bif decide (d.k=5)then gb m (P.av k).bL a else
 bif decide (d.k=6)then ej m q d.lo d.hi (xA P d a) 0 a 0 else
 bif decide (d.k=7)then(bif Nat.beq (m q a).aA 3 then⟨0,a,3⟩else m q a)else
 bif decide (d.k=8)then(bif Nat.beq (m q a).aA 2 then⟨0,a,3⟩else bif Nat.beq (m q a).aA 3 then iS else kH)else
 (bif Nat.beq (m q a).aA 3 then⟨e1 (m q a).n 1,(m q a).to,3⟩else m q a)
section
variable{P:cu}{m m':Nat->Nat->b8}{k a lo:Nat}
def uE(h:(P.av k).d.k=0):cX P m k a=⟨0,a,3⟩:=by simp[cX,h]
def uF(h:(P.av k).d.k=1):cX P m k a=match P.s.data[a]? with
  |some b=>bif rm (P.av k).d b.toNat then⟨0,a+1,3⟩else iS| none=>iS:=by simp[cX,h]
def uG(h:(P.av k).d.k=2):cX P m k a=bif preB P.s (P.av k).d.t a then⟨0,a+(P.av k).d.t.size,3⟩else iS:=by simp[cX,h]
def uH(h:(P.av k).d.k=3):cX P m k a=m ((P.av k).bL.getD 0 0) a:=by simp[cX,h]
def v5(h:(P.av k).d.k=4):cX P m k a=fO m (P.av k).bL a 0:=by simp[cX,h]
def v7(h:(P.av k).d.k=5):cX P m k a=gb m (P.av k).bL a:=by simp[cX,h]
def tn(h:(P.av k).d.k=6):cX P m k a=ej m ((P.av k).bL.getD 0 0) (P.av k).d.lo (P.av k).d.hi (xA P (P.av k).d a) 0 a 0:=by simp[cX,h]
def st(h:(P.av k).d.k=7):cX P m k a=bif Nat.beq (m ((P.av k).bL.getD 0 0) a).aA 3 then⟨0,a,3⟩else m ((P.av k).bL.getD 0 0) a:=by simp[cX,h]
def su(h:(P.av k).d.k=8):cX P m k a=bif Nat.beq (m ((P.av k).bL.getD 0 0) a).aA 2 then⟨0,a,3⟩else bif Nat.beq (m ((P.av k).bL.getD 0 0) a).aA 3 then iS else kH:=by simp[cX,h]
def uI(aq:(P.av k).d.k≠0)(U:(P.av k).d.k≠1)(aa:(P.av k).d.k≠2)(ae:(P.av k).d.k≠3)(aR:(P.av k).d.k≠4)(bn:(P.av k).d.k≠5)(b2:(P.av k).d.k≠6)(eh:(P.av k).d.k≠7)(fg:(P.av k).d.k≠8) : cX P m k a=bif Nat.beq (m ((P.av k).bL.getD 0 0) a).aA 3 then⟨e1 (m ((P.av k).bL.getD 0 0) a).n 1,(m ((P.av k).bL.getD 0 0) a).to,3⟩else m ((P.av k).bL.getD 0 0) a:=by simp[cX,aq,U,aa,ae,aR,bn,b2,eh,fg]
def y'(d:Int):d=0\/d=1\/d=2\/d=3\/d=4\/d=5\/d=6\/d=7\/d=8\/(d≠0/\d≠1/\d≠2/\d≠3/\d≠4/\d≠5/\d≠6/\d≠7/\d≠8):=by omega
def nS(lo:Nat)(m m':Nat->Nat->b8):Prop:=∀ q b,lo<=b->dQ (m q b)->m' q b=m q b
def C3(m:Nat->Nat->b8):Prop:=∀ q b,(m q b).aA=3->b<=(m q b).to
def nS.trans{U1:Nat->Nat->b8}(h:nS lo m m')(bh:nS lo m' U1):nS lo m U1:=λq b ag ah=>by have e:=h q b ag ah;rw[bh q b ag (by rw[e];exact ah),e]
def oA{c:b8}(h:Nat.beq c.aA 3=true):dQ c:=.inr (cM h)
def v8{c:b8}(h:Nat.beq c.aA 2=true):dQ c:=.inl (cM h)
def nT:¬ dQ kH:=λh=>by rcases h with h | h<;>cases h
def NP(h:nS lo m m')(aB:C3 m):∀ (L:List Nat) (a n:Nat),lo<=a->dQ (fO m L a n)->fO m' L a n=fO m L a n
 |[],a,n,_,_=>rfl
 |q::L,a,n,ax,ah=>by
  cases ae:Nat.beq (m q a).aA 3 with
  |true=>have e:=h q a ax (oA ae);simp only[fO,e,ae,bg]at ah |-;exact NP h aB L _ _ (jD ax (aB q a (cM ae))) ah| false=>simp only[fO,ae,bd]at ah;have e:=h q a ax ah;simp only[fO,e,ae,bd]
def NQ(h:nS lo m m'):∀ (L:List Nat) (a:Nat),lo<=a->dQ (gb m L a)->gb m' L a=gb m L a
 |[],a,_,_=>rfl
 |q::L,a,ax,ah=>by
  cases aa:Nat.beq (m q a).aA 2 with
  |true=>have e:=h q a ax (v8 aa);simp only[gb,e,aa,bg]at ah |-;exact NQ h L a ax ah| false=>simp only[gb,aa,bd]at ah;have e:=h q a ax ah;simp only[gb,e,aa,bd]
def NR(h:nS lo m m')(aB:C3 m){q:Nat}{l u:Int}:∀ (j i a n:Nat),lo<=a->dQ (ej m q l u j i a n)->ej m' q l u j i a n=ej m q l u j i a n
 |0,i,a,n,_,_=>rfl
 |j+1,i,a,n,ax,ah=>by
  cases aa:Nat.beq (m q a).aA 2 with
  |true=>have e:=h q a ax (v8 aa);simp only[ej,e,aa,bg]
  |false=>
   cases ae:Nat.beq (m q a).aA 3 with
   |true=>
    have e:=h q a ax (oA ae);simp only[ej,e,aa,ae,bg,bd]at ah |-;cases hu:decide (u=-1)&&decide ((m q a).to=a)with
    |true=>rfl| false=>rw[hu,bd]at ah;exact NR h aB j _ _ _ (jD ax (aB q a (cM ae))) ah
   |false=>simp only[ej,aa,ae,bd]at ah;exact absurd ah nT
def F1(h:nS lo m m')(aB:C3 m)(ax:lo<=a)(ah:dQ (cX P m k a)):cX P m' k a=cX P m k a:=by
 have one:∀ q:Nat,dQ (m q a)->m' q a=m q a:=λq az=>h q a ax az;rcases y' (P.av k).d.k with e | e | e | e | e | e | e | e | e | ⟨cd,aC,ay,bf,b3,eY,g7,oB,px⟩
 ·rw[uE e,uE e]
 ·rw[uF e,uF e]
 ·rw[uG e,uG e]
 ·rw[uH e]at ah |-;rw[uH e];exact one _ ah
 ·rw[v5 e]at ah |-;rw[v5 e];exact NP h aB _ _ _ ax ah
 ·rw[v7 e]at ah |-;rw[v7 e];exact NQ h _ _ ax ah
 ·rw[tn e]at ah |-;rw[tn e];exact NR h aB _ _ _ _ ax ah
 ·rw[st e]at ah |-;rw[st e];generalize(P.av k).bL.getD 0 0=q at ah |-;cases ae:Nat.beq (m q a).aA 3 with
  |true=>rw[one q (oA ae),ae]| false=>rw[ae,bd]at ah;rw[one q ah,ae]
 ·rw[su e]at ah |-;rw[su e];generalize(P.av k).bL.getD 0 0=q at ah |-;cases aa:Nat.beq (m q a).aA 2 with
  |true=>rw[one q (v8 aa),aa]
  |false=>
   cases ae:Nat.beq (m q a).aA 3 with
   |true=>rw[one q (oA ae),aa,ae]| false=>rw[aa,ae]at ah;exact absurd ah nT
 ·rw[uI cd aC ay bf b3 eY g7 oB px]at ah |-;rw[uI cd aC ay bf b3 eY g7 oB px];generalize(P.av k).bL.getD 0 0=q at ah |-;cases ae:Nat.beq (m q a).aA 3 with
  |true=>rw[one q (oA ae),ae]| false=>rw[ae,bd]at ah;rw[one q ah,ae]
end
def jU(z a:Nat)(c:b8):Prop:=c=kH\/c=iS\/(c.aA=3/\a<=c.to/\(a<=z->c.to<=z)/\c.n<=1099511627776)
def jU.m{a to n:Nat}(U:a<=to)(aa:a<=z->to<=z)(ae:n<=1099511627776):jU z a ⟨n,to,3⟩:=.inr (.inr ⟨rfl,U,aa,ae⟩)
def jU.ge{a:Nat}{c:b8}(h:jU z a c)(ae:c.aA=3):a<=c.to/\(a<=z->c.to<=z)/\c.n<=1099511627776:=by
 rcases h with rfl | rfl | h
 ·cases ae
 ·cases ae
 ·exact h.2
def jU.aA{a:Nat}{c:b8}(h:jU z a c):c.aA=0\/c.aA=2\/c.aA=3:=by
 rcases h with rfl | rfl | h
 ·exact .inl rfl
 ·exact .inr (.inl rfl)
 ·exact .inr (.inr h.1)
def jU.zero{z a:Nat}{c:b8}(h:jU z a c)(aa:¬ dQ c):c=kH:=by
 rcases h with rfl | rfl | h
 ·rfl
 ·exact absurd (.inl rfl) aa
 ·exact absurd (.inr h.1) aa
def jU.aev{a:Nat}{c:b8}(h:jU z a c)(ae:Nat.beq c.aA 3=false):(⟨0,0,c.aA⟩:b8)=c:=by
 rcases h with rfl | rfl | h
 ·rfl
 ·rfl
 ·rw[h.1]at ae;cases ae
def jU.s0{a b:Nat}{c:b8}(h:jU z b c)(j9:a<=b)(a1:a<=z->b<=z):jU z a c:=by
 rcases h with h | h | ⟨U,aa,ae,aR⟩
 ·exact .inl h
 ·exact .inr (.inl h)
 ·exact .inr (.inr ⟨U,by omega,λh=>ae (a1 h),aR⟩)
def rr(a b:Nat):e1 a b<=1099511627776:=Jc _ _
section
variable{z:Nat}{m:Nat->Nat->b8}(hm:∀ q b,jU z b (m q b))
include hm
theorem U2:∀ (L:List Nat) (a n:Nat),n<=1099511627776->jU z a (fO m L a n)
 |[],a,n,an=>.m (b1 _) id an
 |q::L,a,n,an=>by
  cases ae:Nat.beq (m q a).aA 3 with
  |true=>simp only[fO,ae,bg];obtain⟨aV,aX,bq⟩:=(hm q a).ge (cM ae);exact(U2 L _ _ (rr _ _)).s0 aV aX
  |false=>simp only[fO,ae,bd];rw[(hm q a).aev ae];exact hm q a
theorem U3:∀ (L:List Nat) (a:Nat),jU z a (gb m L a)
 |[],a=>.inr (.inl rfl)
 |q::L,a=>by
  cases aa:Nat.beq (m q a).aA 2 with
  |true=>simp only[gb,aa,bg];exact U3 L a| false=>simp only[gb,aa,bd];exact hm q a
theorem U4{q:Nat}{l u:Int}:∀ (j i a n:Nat),n<=1099511627776->jU z a (ej m q l u j i a n)
 |0,i,a,n,an=>by
  unfold ej;cases decide (u=-1);·exact .m (b1 _) id an
  ·exact .inl rfl
 |j+1,i,a,n,an=>by
  cases aa:Nat.beq (m q a).aA 2 with
  |true=>
   simp only[ej,aa,bg];cases decide ((i:Int)<l);·exact .m (b1 _) id an
   ·exact .inr (.inl rfl)
  |false=>
   cases ae:Nat.beq (m q a).aA 3 with
   |true=>
    simp only[ej,aa,ae,bg,bd];obtain⟨aV,aX,bq⟩:=(hm q a).ge (cM ae);cases decide (u=-1)&&decide ((m q a).to=a)with
    |true=>exact .inl rfl| false=>exact(U4 j _ _ _ (rr _ _)).s0 aV aX
   |false=>simp only[ej,aa,ae,bd];exact .inl rfl
theorem NS{P:cu}(a1:P.s.size=z)(k a:Nat):jU z a (cX P m k a):=by
 rcases y' (P.av k).d.k with e | e | e | e | e | e | e | e | e | ⟨cd,aC,ay,bf,b3,eY,g7,oB,px⟩
 ·rw[uE e];exact .m (b1 _) id (by omega)
 ·rw[uF e];cases ag:P.s.data[a]? with
  |none=>exact .inr (.inl rfl)
  |some b=>
   have aO:a<P.s.data.size:=(lv.1 ag).1;have:P.s.data.size=P.s.size:=rfl;simp only;cases rm (P.av k).d b.toNat;·exact .inr (.inl rfl)
   ·exact .m (by omega) (by omega) (by omega)
 ·rw[uG e];cases aK:preB P.s (P.av k).d.t a with
  |false=>exact .inr (.inl rfl)| true=>simp only[preB,cA,e7]at aK;exact .m (by omega) (by omega) (by omega)
 ·rw[uH e];exact hm _ a
 ·rw[v5 e];exact U2 hm _ _ _ (by omega)
 ·rw[v7 e];exact U3 hm _ _
 ·rw[tn e];exact U4 hm _ _ _ _ (by omega)
 ·rw[st e];cases Nat.beq (m ((P.av k).bL.getD 0 0) a).aA 3
  ·exact hm _ a
  ·exact .m (b1 _) id (by omega)
 ·rw[su e];cases Nat.beq (m ((P.av k).bL.getD 0 0) a).aA 2 with
  |true=>exact .m (b1 _) id (by omega)
  |false=>
   cases Nat.beq (m ((P.av k).bL.getD 0 0) a).aA 3;·exact .inl rfl
   ·exact .inr (.inl rfl)
 ·rw[uI cd aC ay bf b3 eY g7 oB px];cases ae:Nat.beq (m ((P.av k).bL.getD 0 0) a).aA 3 with
  |false=>exact hm _ a| true=>obtain⟨aV,aX,bq⟩:=(hm _ a).ge (cM ae);exact .m aV aX (rr _ _)
end
def gC(P:cu):Nat->Nat->Nat->b8
 |0,_,_=>kH| n+1,k,a=>cX P (gC P n) k a
def Jr(P:cu):∀ (n k a:Nat),jU P.s.size a (gC P n k a)
 |0,_,_=>.inl rfl| n+1,k,a=>NS (Jr P n) rfl k a
def F2(P:cu)(n:Nat):C3 (gC P n):=λq b ae=>((Jr P n q b).ge ae).1
def NT(P:cu):∀ n,nS 0 (gC P n) (gC P (n+1))
 |0=>λq b _ ah=>absurd ah nT
 |n+1=>λq b ag ah=>F1 (NT P n) (F2 P n) ag ah
def C4(P:cu){n:Nat}(h:n<=fA):nS 0 (gC P n) (gC P fA):=by
 induction h with
 |refl=>exact λ_ _ _ _=>rfl
 |step _ bc=>exact bc.trans (NT P _)
open Classical in
noncomputable def bj(P:cu)(k a:Nat):b8:=if h:∃ n,dQ (gC P n k a)then gC P h.choose k a else kH
def za{P:cu}{n k a:Nat}(h:dQ (gC P n k a)):bj P k a=gC P n k a:=by have ab:∃ n,dQ (gC P n k a):=⟨n,h⟩;unfold bj;rw[dif_pos ab];have aN:=ab.choose_spec;have aC:=C4 P (Je n ab.choose) k a (bi _) h;have ay:=C4 P (Jd n ab.choose) k a (bi _) aN;rw[<-aC,<-ay]
def py{P:cu}{k a:Nat}(h:dQ (bj P k a)):∃ n,gC P n k a=bj P k a:=by
 by_cases ab:∃ n,dQ (gC P n k a)
 ·obtain⟨n,an⟩:=ab;exact⟨n,(za an).symm⟩
 ·unfold bj at h;rw[dif_neg ab]at h;exact absurd h nT
def U5(P:cu)(n:Nat):nS 0 (gC P n) (bj P):=λ_ _ _ ah=>za ah
def tp(P:cu)(k a:Nat):jU P.s.size a (bj P k a):=by
 by_cases ah:dQ (bj P k a)
 ·obtain⟨n,an⟩:=py ah;rw[<-an];exact Jr P n k a
 ·by_cases ab:∃ n,dQ (gC P n k a)
  ·obtain⟨n,an⟩:=ab;rw[za an]at ah;exact absurd an ah
  ·unfold bj;rw[dif_neg ab];exact .inl rfl
section
variable{P:cu}
def NU{n q b:Nat}(h:n<=fA)(e:gC P n q b=bj P q b)(ah:dQ (bj P q b)):gC P fA q b=bj P q b:=by rw[<-e]at ah |-;exact C4 P h q b (bi _) ah
def U6:∀ (L:List Nat) (a n:Nat),dQ (fO (bj P) L a n)->∃ N,fO (gC P N) L a n=fO (bj P) L a n
 |[],a,n,_=>⟨0,rfl⟩
 |q::L,a,n,ah=>by
  cases ae:Nat.beq (bj P q a).aA 3 with
  |true=>obtain⟨gm,aC⟩:=py (oA ae);simp only[fO,ae,bg]at ah |-;obtain⟨g6,ay⟩:=U6 L _ _ ah;refine⟨max gm g6,?_⟩;simp only[NU (Je gm g6) aC (oA ae),ae,bg];rw[<-ay]at ah |-;exact NP (C4 P (Jd gm g6)) (F2 P g6) _ _ _ (bi _) ah
  |false=>simp only[fO,ae,bd]at ah |-;obtain⟨gm,aC⟩:=py ah;exact⟨gm,by simp only[aC,ae,bd]⟩
def U7:∀ (L:List Nat) (a:Nat),dQ (gb (bj P) L a)->∃ N,gb (gC P N) L a=gb (bj P) L a
 |[],a,_=>⟨0,rfl⟩
 |q::L,a,ah=>by
  cases aa:Nat.beq (bj P q a).aA 2 with
  |true=>obtain⟨gm,aC⟩:=py (v8 aa);simp only[gb,aa,bg]at ah |-;obtain⟨g6,ay⟩:=U7 L _ ah;refine⟨max gm g6,?_⟩;simp only[NU (Je gm g6) aC (v8 aa),aa,bg];rw[<-ay]at ah |-;exact NQ (C4 P (Jd gm g6)) _ _ (bi _) ah
  |false=>simp only[gb,aa,bd]at ah |-;obtain⟨gm,aC⟩:=py ah;exact⟨gm,by simp only[aC,aa,bd]⟩
def U8{q:Nat}{l u:Int}:∀ (j i a n:Nat),dQ (ej (bj P) q l u j i a n)->∃ N,ej (gC P N) q l u j i a n=ej (bj P) q l u j i a n
 |0,i,a,n,_=>⟨0,rfl⟩
 |j+1,i,a,n,ah=>by
  cases aa:Nat.beq (bj P q a).aA 2 with
  |true=>obtain⟨gm,aC⟩:=py (v8 aa);exact⟨gm,by simp only[ej,aC,aa,bg]⟩
  |false=>
   cases ae:Nat.beq (bj P q a).aA 3 with
   |true=>
    obtain⟨gm,aC⟩:=py (oA ae);simp only[ej,aa,ae,bg,bd]at ah |-;cases hu:decide (u=-1)&&decide ((bj P q a).to=a)with
    |true=>rw[hu]at ah;exact absurd ah nT| false=>rw[hu,bd]at ah;obtain⟨g6,ay⟩:=U8 j _ _ _ ah;refine⟨max gm g6,?_⟩;simp only[NU (Je gm g6) aC (oA ae),aa,ae,hu,bg,bd];rw[<-ay]at ah |-;exact NR (C4 P (Jd gm g6)) (F2 P g6) _ _ _ _ (bi _) ah
   |false=>simp only[ej,aa,ae,bd]at ah;exact absurd ah nT
def aew{k a:Nat}(ah:dQ (cX P (bj P) k a)):∃ N,cX P (gC P N) k a=cX P (bj P) k a:=by
 rcases y' (P.av k).d.k with e | e | e | e | e | e | e | e | e | ⟨cd,aC,ay,bf,b3,eY,g7,oB,px⟩
 ·exact⟨0,by rw[uE e,uE e]⟩
 ·exact⟨0,by rw[uF e,uF e]⟩
 ·exact⟨0,by rw[uG e,uG e]⟩
 ·rw[uH e]at ah |-;obtain⟨n,an⟩:=py ah;exact⟨n,by rw[uH e,an]⟩
 ·rw[v5 e]at ah |-;obtain⟨n,an⟩:=U6 _ _ _ ah;exact⟨n,by rw[v5 e,an]⟩
 ·rw[v7 e]at ah |-;obtain⟨n,an⟩:=U7 _ _ ah;exact⟨n,by rw[v7 e,an]⟩
 ·rw[tn e]at ah |-;obtain⟨n,an⟩:=U8 _ _ _ _ ah;exact⟨n,by rw[tn e,an]⟩
 ·rw[st e]at ah |-;have U:dQ (bj P ((P.av k).bL.getD 0 0) a):=by
   cases ae:Nat.beq (bj P ((P.av k).bL.getD 0 0) a).aA 3 with
   |true=>exact oA ae| false=>rwa [ae,bd]at ah
  obtain⟨n,an⟩:=py U;exact⟨n,by rw[st e,an]⟩
 ·rw[su e]at ah |-;have U:dQ (bj P ((P.av k).bL.getD 0 0) a):=by
   cases aa:Nat.beq (bj P ((P.av k).bL.getD 0 0) a).aA 2 with
   |true=>exact v8 aa
   |false=>
    cases ae:Nat.beq (bj P ((P.av k).bL.getD 0 0) a).aA 3 with
    |true=>exact oA ae| false=>rw[aa,ae]at ah;exact absurd ah nT
  obtain⟨n,an⟩:=py U;exact⟨n,by rw[su e,an]⟩
 ·rw[uI cd aC ay bf b3 eY g7 oB px]at ah |-;have U:dQ (bj P ((P.av k).bL.getD 0 0) a):=by
   cases ae:Nat.beq (bj P ((P.av k).bL.getD 0 0) a).aA 3 with
   |true=>exact oA ae| false=>rwa [ae,bd]at ah
  obtain⟨n,an⟩:=py U;exact⟨n,by rw[uI cd aC ay bf b3 eY g7 oB px,an]⟩
def NV{k a:Nat}(ah:dQ (cX P (bj P) k a)):bj P k a=cX P (bj P) k a:=by
 obtain⟨N,e⟩:=aew ah;have:dQ (gC P (N+1) k a):=by show dQ (cX P (gC P N) k a);rw[e];exact ah
 rw[za this];exact e
def aex{k a:Nat}(ah:dQ (bj P k a)):cX P (bj P) k a=bj P k a:=by
 obtain⟨n,an⟩:=py ah;cases n with
 |zero=>rw[<-an]at ah;exact absurd ah nT| succ n=>rw[<-an]at ah |-;exact F1 (U5 P n) (F2 P n) (bi _) ah
def Js{k a:Nat}:cX P (bj P) k a=bj P k a:=by
 by_cases ah:dQ (bj P k a)
 ·exact aex ah
 ·by_cases hI:dQ (cX P (bj P) k a)
  ·exact(NV hI).symm
  ·rw[(tp P k a).zero ah,(NS (tp P) rfl k a).zero hI]
def aey{m:Nat->Nat->b8}{lo:Nat}(h:∀ k a,lo<=a->dQ (cX P m k a)->m k a=cX P m k a):nS lo (bj P) m:=by
 have step:∀ n,nS lo (gC P n) m:=λn=>by
  induction n with
  |zero=>exact λ_ _ _ ah=>absurd ah nT
  |succ n bc=>
   intro k a ax ah;have e:=F1 bc (F2 P n) ax ah;have hI:dQ (cX P m k a):=by rw[e];exact ah
   rw[h k a ax hI,e];rfl
 intro k a ax ah;obtain⟨n,an⟩:=py ah;rw[<-an]at ah |-;exact step n k a ax ah
end
structure bW where
 n:Nat
 to:Nat
 aA:Nat
 gB:Nat
def g8:bW:=⟨0,0,0,0⟩
def oC(to:Nat):bW:=⟨0,to,2,0⟩
def v9:bW:=⟨0,0,1,0⟩
def bW.ce(c:bW):b8:=bif Nat.beq c.aA 2 then⟨c.n,c.to,3⟩else bif Nat.beq c.aA 1 then iS else kH
def qn(T:Nat->Nat->bW):List Nat->Nat->Nat->bW
 |[],a,n=>⟨n,a,2,0⟩| q::L,a,n=>bif Nat.beq (T q a).aA 2 then qn T L (T q a).to (e1 n (T q a).n)else⟨0,0,(T q a).aA,0⟩
def qo(T:Nat->Nat->bW):List Nat->Nat->bW
 |[],_=>v9| q::L,a=>bif Nat.beq (T q a).aA 1 then qo T L a else T q a
def pz(T:Nat->Nat->bW)(q:Nat)(lo:Int):Nat->Nat->Nat->Nat->bW
 |0,_,a,n=>⟨n,a,2,0⟩
 |j+1,i,a,n=>bif Nat.beq (T q a).aA 0||(Nat.beq (T q a).aA 1&&decide ((i:Int)<lo))then⟨0,0,(T q a).aA,0⟩else
   bif Nat.beq (T q a).aA 1 then⟨n,a,2,0⟩else pz T q lo j (i+1) (T q a).to (e1 n (T q a).n)
def nU(lo:Int)(c:bW):bW:=bif decide ((c.gB:Int)<lo)then { c with aA:=1 }else c
def xB(T:Nat->Nat->bW)(k q:Nat)(lo:Int)(a:Nat):bW:=
 bif Nat.beq (T q a).aA 0||(Nat.beq (T q a).aA 2&&Nat.beq (T q a).to a)then g8 else
 bif Nat.beq (T q a).aA 2 then(bif Nat.beq (T k (T q a).to).aA 0 then g8 else nU lo ⟨e1 (T q a).n (T k (T q a).to).n,(T k (T q a).to).to,2,min ((T k (T q a).to).gB+1) 99⟩)else nU lo (oC a)
def dZ(P:cu)(T:Nat->Nat->bW)(k a:Nat):bW:=
 let d:=(P.av k).d
 let q:=(P.av k).bL.getD 0 0
 bif decide (d.k=0)then oC a else
 bif decide (d.k=1)then(match P.s.data[a]? with
  |some b=>bif rm d b.toNat then oC (a+1)else v9| none=>v9)else
 bif decide (d.k=2)then(bif preB P.s d.t a then oC (a+d.t.size)else v9)else
 bif decide (d.k=3)then T q a else
 bif decide (d.k=4)then qn T (P.av k).bL a 0 else
 bif decide (d.k=5)then qo T (P.av k).bL a else
 bif decide (d.k=6)then(bif decide (d.hi=-1)then xB T k q d.lo a else pz T q d.lo d.hi.toNat 0 a 0)else
 bif decide (d.k=7)then(bif Nat.beq (T q a).aA 2 then oC a else⟨0,0,(T q a).aA,0⟩)else
 bif decide (d.k=8)then(bif Nat.beq (T q a).aA 1 then oC a else bif Nat.beq (T q a).aA 2 then v9 else g8)else
 (bif Nat.beq (T q a).aA 2 then { T q a with n:=e1 (T q a).n 1 }else T q a)
def hE(T:Nat->Nat->bW):Nat->Nat->b8:=λk a=>(T k a).ce
def rs{c:bW}(h:c.aA<=2):(c.aA=0/\c.ce=kH)\/(c.aA=1/\c.ce=iS)\/(c.aA=2/\c.ce=⟨c.n,c.to,3⟩):=by
 have:c.aA=0\/c.aA=1\/c.aA=2:=by omega
 rcases this with e | e | e
 ·exact .inl ⟨e,by simp only[bW.ce,e];rfl⟩
 ·exact .inr (.inl ⟨e,by simp only[bW.ce,e];rfl⟩)
 ·exact .inr (.inr ⟨e,by simp only[bW.ce,e];rfl⟩)
def A0{c:bW}(h:c.aA<=2):dQ c.ce ↔ c.aA≠0:=by
 rcases rs h with⟨e,a4⟩ | ⟨e,a4⟩ | ⟨e,a4⟩<;>rw[a4]<;>simp[dQ,kH,iS,e]
section
variable{T:Nat->Nat->bW}(bS:∀ k a,(T k a).aA<=2)
include bS
theorem U9:∀ (L:List Nat) (a n:Nat),(qn T L a n).ce=fO (hE T) L a n
 |[],a,n=>rfl
 |q::L,a,n=>by
  rcases rs (bS q a)with⟨e,a4⟩ | ⟨e,a4⟩ | ⟨e,a4⟩;·simp only[qn,fO,hE,e,a4];rfl
  ·simp only[qn,fO,hE,e,a4];rfl
  ·have bc:=U9 L (T q a).to (e1 n (T q a).n);simp only[qn,fO,hE,e,a4]at bc |-;exact bc
theorem U':∀ (L:List Nat) (a:Nat),(qo T L a).ce=gb (hE T) L a
 |[],a=>rfl
 |q::L,a=>by
  rcases rs (bS q a)with⟨e,a4⟩ | ⟨e,a4⟩ | ⟨e,a4⟩;·simp only[qo,gb,hE,e,a4];exact a4
  ·have bc:=U' L a;simp only[qo,gb,hE,e,a4]at bc |-;exact bc
  ·simp only[qo,gb,hE,e,a4];exact a4
theorem Va{q:Nat}{lo hi:Int}(bC:hi≠-1):∀ (j i a n:Nat),(pz T q lo j i a n).ce=ej (hE T) q lo hi j i a n
 |0,i,a,n=>by simp only[pz,ej,c0 bC,bd];rfl
 |j+1,i,a,n=>by
  rcases rs (bS q a)with⟨e,a4⟩ | ⟨e,a4⟩ | ⟨e,a4⟩;·simp only[pz,ej,hE,e,a4];rfl
  ·simp only[pz,ej,hE,e,a4];cases decide ((i:Int)<lo)<;>rfl
  ·have bc:=Va (q:=q) (lo:=lo) bC j (i+1) (T q a).to (e1 n (T q a).n);simp only[pz,ej,hE,e,a4,c0 bC]at bc |-;exact bc
theorem Vb{P:cu}{k a:Nat}(h:(P.av k).d.k=6->(P.av k).d.hi≠-1):(dZ P T k a).ce=cX P (hE T) k a:=by
 rcases y' (P.av k).d.k with e | e | e | e | e | e | e | e | e | ⟨cd,aC,ay,bf,b3,eY,g7,oB,px⟩
 ·rw[uE e];simp only[dZ,e];rfl
 ·rw[uF e];simp only[dZ,e];cases ag:P.s.data[a]? with
  |none=>rfl
  |some b=>
   simp only;cases rm (P.av k).d b.toNat<;>rfl
 ·rw[uG e];simp only[dZ,e];cases preB P.s (P.av k).d.t a<;>rfl
 ·rw[uH e];simp[dZ,e,hE]
 ·rw[v5 e,<-U9 bS];simp[dZ,e]
 ·rw[v7 e,<-U' bS];simp[dZ,e]
 ·have bC:=h e;rw[tn e,<-Va bS bC];simp[dZ,e,bC,xA]
 ·rw[st e];generalize az:(P.av k).bL.getD 0 0=q;rcases rs (bS q a)with⟨g,dz⟩ | ⟨g,dz⟩ | ⟨g,dz⟩
  ·simp only[dZ,e,az,g,hE,dz];rfl
  ·simp only[dZ,e,az,g,hE,dz];rfl
  ·simp only[dZ,e,az,g,hE,dz];rfl
 ·rw[su e];generalize az:(P.av k).bL.getD 0 0=q;rcases rs (bS q a)with⟨g,dz⟩ | ⟨g,dz⟩ | ⟨g,dz⟩
  ·simp only[dZ,e,az,g,hE,dz];rfl
  ·simp only[dZ,e,az,g,hE,dz];rfl
  ·simp only[dZ,e,az,g,hE,dz];rfl
 ·rw[uI cd aC ay bf b3 eY g7 oB px];generalize az:(P.av k).bL.getD 0 0=q;have ar:dZ P T k a=bif Nat.beq (T q a).aA 2 then { T q a with n:=e1 (T q a).n 1 }else T q a:=by simp only[dZ,az,c0 cd,c0 aC,c0 ay,c0 bf,c0 b3,c0 eY,c0 g7,c0 oB,c0 px,bd]
  rw[ar];rcases rs (bS q a)with⟨g,dz⟩ | ⟨g,dz⟩ | ⟨g,dz⟩;·simp only[g,hE,dz];exact dz
  ·simp only[g,hE,dz];exact dz
  ·simp only[g,hE,dz];simp[bW.ce,g]
end
inductive k'(m:Nat->Nat->b8)(q:Nat):Nat->Nat->Nat->Nat->Prop
 |stop{a}(h:(m q a).aA=2):k' m q a 0 a 0| more {a t to n} (h:(m q a).aA=3) (an:(m q a).to≠a) (r:k' m q (m q a).to t to n):k' m q a (t+1) to (e1 (m q a).n n)
def aez(a b c:Nat):e1 a (e1 b c)=e1 (e1 a b) c:=by unfold e1;omega
def k'.mono{m m':Nat->Nat->b8}{q a t to n lo:Nat}(h:nS lo m m')(aB:C3 m)(aN:k' m q a t to n)(ax:lo<=a):k' m' q a t to n:=by
 induction aN with
 |stop U=>exact .stop (by rw[h q _ ax (.inl U)];exact U)| @more a t to n U an r bc=>have e:=h q a ax (.inr U);have:=k'.more (m:=m') (q:=q) (a:=a) (by rw[e];exact U) (by rw[e];exact an) (by rw[e];exact bc (jD ax (aB q a U)));rwa [e]at this
def k'.len{m:Nat->Nat->b8}{q a t to n:Nat}(hm:∀ q b,jU z b (m q b))(aN:k' m q a t to n):a+t<=to/\(a<=z->to<=z)/\n<=1099511627776:=by
 induction aN with
 |stop U=>exact⟨b1 _,id,bi _⟩| @more a t to n U an r bc=>obtain⟨aV,aX,bq⟩:=(hm q a).ge U;obtain⟨i1,i2,i3⟩:=bc;exact⟨by omega,λh=>i2 (aX h),rr _ _⟩
def aeA{m:Nat->Nat->b8}{q:Nat}{a t to c:Nat}(aN:k' m q a t to c):∀ (j i n:Nat),t<j->n<=1099511627776 ->
  ej m q lo (-1) j i a n=bif decide (((i+t:Nat):Int)<lo)then iS else⟨e1 n c,to,3⟩:=by
 induction aN with
 | @stop a U=>
  intro j i n ak an;obtain⟨j,rfl⟩:∃ x,j=x+1:=⟨j-1,by omega⟩;have e:e1 n 0=n:=by unfold e1;omega
  simp only[ej,U,e];rfl
 | @more a t to c U bu r bc=>intro j i n ak an;obtain⟨j,rfl⟩:∃ x,j=x+1:=⟨j-1,by omega⟩;have aa:=bc j (i+1) (e1 n (m q a).n) (by omega) (rr _ _);simp only[ej,U,c0 bu];rw[show Nat.beq 3 2=false from rfl,bd,show Nat.beq 3 3=true from rfl,bg,Jf,bd,aa,<-aez];rw[show i+1+t=i+(t+1) by omega]
def Vc{m:Nat->Nat->b8}{q:Nat}{lo:Int}:∀ (j i a n:Nat),dQ (ej m q lo (-1) j i a n)->∃ t to c,k' m q a t to c/\t<j
 |0,i,a,n,ah=>absurd ah nT
 |j+1,i,a,n,ah=>by
  cases aa:Nat.beq (m q a).aA 2 with
  |true=>exact⟨0,a,0,.stop (cM aa),by omega⟩
  |false=>
   cases ae:Nat.beq (m q a).aA 3 with
   |false=>simp only[ej,aa,ae,bd]at ah;exact absurd ah nT
   |true=>
    simp only[ej,aa,ae,bd,bg]at ah;cases he:decide ((m q a).to=a)with
    |true=>rw[he]at ah;exact absurd ah nT| false=>rw[he]at ah;obtain⟨t,to,c,h,aO⟩:=Vc j _ _ _ ah;exact⟨t+1,to,_,.more (cM ae) (ct he) h,by omega⟩
def Vd{P:cu}{k a t to c:Nat}(b2:(P.av k).d.k=6)(bC:(P.av k).d.hi=-1)(ax:a<=P.s.size)(aN:k' (bj P) ((P.av k).bL.getD 0 0) a t to c) :
  bj P k a=bif decide ((t:Int)<(P.av k).d.lo)then iS else⟨c,to,3⟩:=by
 obtain⟨k8,iT,anS⟩:=aN.len (tp P);have a1:=iT ax;rw[<-Js,tn b2,bC,xA,bC,gX rfl,bg,aeA aN _ _ _ (by omega) (by omega),dK];rw[show e1 0 c=c by unfold e1;omega]
structure ib(P:cu)(N:Nat)(T:Nat->Nat->bW):Prop where
 aA:∀ k a,(T k a).aA<=2
 snd:∀ k a,(T k a).aA≠0->bj P k a=(T k a).ce
 s3:∀ k a,k<N->a<=P.s.size->(P.av k).d.k=6->(P.av k).d.hi=-1->(T k a).aA≠0->∃ t,k' (bj P) ((P.av k).bL.getD 0 0) a t (T k a).to (T k a).n/\(T k a).gB=min t 99
 rg:∀ k a,k<N->a<=P.s.size->(T k a).n<=1099511627776/\(T k a).to<=P.s.size/\(T k a).gB<=99
 out:∀ k a,¬ (k<N/\a<=P.s.size)->(T k a).ce=bj P k a
def gn(T:Nat->Nat->bW)(k p:Nat)(c:bW):Nat->Nat->bW:=λc7 hg=>bif Nat.beq c7 k&&Nat.beq hg p then c else T c7 hg
def C5(T:Nat->Nat->bW)(k p:Nat)(c:bW):gn T k p c k p=c:=by simp[gn]
def xC{T:Nat->Nat->bW}{k p hg:Nat}{c:bW}(h:¬ (c7=k/\hg=p)):gn T k p c c7 hg=T c7 hg:=by
 unfold gn;have:(Nat.beq c7 k&&Nat.beq hg p)=false:=by rw[xq];intro e;simp only[cA,Nat.beq_eq]at e;exact h e
 rw[this];rfl
structure tq(P:cu)(N:Nat)(k:Nat):Prop where
 fN:0<=(P.av k).d.k
 one:(P.av k).d.k=3\/6<=(P.av k).d.k->(P.av k).bL.getD 0 0<N
 bL:∀ q∈(P.av k).bL,q<N
 l7:(P.av k).d.k=6->(P.av k).d.lo<=99
section
variable{P:cu}{N:Nat}{T:Nat->Nat->bW}
def ib.le(h:ib P N T):nS 0 (hE T) (bj P):=λq b _ ah=>h.snd q b ((A0 (h.aA q b)).1 ah)
def ib.cz(h:ib P N T)(q b:Nat):jU P.s.size b (hE T q b):=by
 by_cases e:(T q b).aA=0
 ·rcases rs (h.aA q b)with⟨_,a4⟩ | ⟨ay,_⟩ | ⟨ay,_⟩
  ·exact .inl a4
  ·omega
  ·omega
 ·show jU _ _ (T q b).ce;rw[<-h.snd q b e];exact tp P q b
def ib.ge(h:ib P N T):C3 (hE T):=λq b ae=>((h.cz q b).ge ae).1
def aeB{t:Nat}(h:lo<=99):decide (((min t 99:Nat):Int)<lo)=decide ((t:Int)<lo):=by rw[pQ];simp only[e7];omega
def Ve(lo:Int)(n to t:Nat):(nU lo ⟨n,to,2,t⟩).ce=bif decide ((t:Int)<lo)then iS else⟨n,to,3⟩:=by
 unfold nU;cases decide ((t:Int)<lo)<;>rfl
def Vf(lo:Int)(c:bW):(nU lo c).n=c.n/\(nU lo c).to=c.to/\(nU lo c).gB=c.gB:=by
 unfold nU;cases decide ((c.gB:Int)<lo)<;>exact⟨rfl,rfl,rfl⟩
def Vg(lo:Int)(c:bW)(h:c.aA=2):(nU lo c).aA<=2:=by
 unfold nU;cases decide ((c.gB:Int)<lo)
 ·exact Nat.le_of_eq h
 ·show 1<=2;omega
def aeC(h:ib P N T){k a:Nat}(af:k<N)(ax:a<=P.s.size)(an:tq P N k)(b2:(P.av k).d.k=6)(bC:(P.av k).d.hi=-1){c:bW}(aN:xB T k ((P.av k).bL.getD 0 0) (P.av k).d.lo a=c) :
  c.aA<=2/\c.n<=1099511627776/\c.to<=P.s.size/\c.gB<=99/\(c.aA≠0->bj P k a=c.ce/\∃ t,k' (bj P) ((P.av k).bL.getD 0 0) a t c.to c.n/\c.gB=min t 99):=by
 have eS:=an.l7 b2;have aeD:=an.one (.inr (by omega));generalize az:(P.av k).bL.getD 0 0=q at aN aeD |-;have F3:=fun {t to c} (h:k' (bj P) q a t to c)=>Vd b2 bC ax (by rw[az];exact h);unfold xB at aN;rcases rs (h.aA q a)with⟨e,a4⟩ | ⟨e,a4⟩ | ⟨e,a4⟩
 ·simp only[e]at aN;subst aN;exact⟨bi _,bi _,bi _,bi _,λh=>absurd rfl h⟩
 ·have aw:=h.snd q a (by omega);rw[a4]at aw;have cT:k' (bj P) q a 0 a 0:=.stop (by rw[aw];rfl);simp only[e]at aN;have ua:nU (P.av k).d.lo (oC a)=c:=aN;obtain⟨f1,f2,f3⟩:=Vf (P.av k).d.lo (oC a);rw[<-ua];refine⟨Vg _ _ rfl,by rw[f1];exact bi _,by rw[f2];exact ax,by rw[f3];exact bi _,λ_=>⟨?_,0,by rw[f1,f2];exact cT,by rw[f3];rfl⟩⟩;rw[F3 cT];exact(Ve _ 0 a 0).symm
 ·have aw:=h.snd q a (by omega);rw[a4]at aw;have hC:=tp P q a;rw[aw]at hC;obtain⟨aV,aX,bq⟩:=hC.ge rfl;simp only at aV aX bq;simp only[e]at aN;cases ag:Nat.beq (T q a).to a with
  |true=>rw[ag]at aN;have ua:g8=c:=aN;subst ua;exact⟨bi _,bi _,bi _,bi _,λh=>absurd rfl h⟩
  |false=>
   have bu:(T q a).to≠a:=λe=>by rw[e]at ag;simp at ag
   rw[ag]at aN;have ua:(bif Nat.beq (T k (T q a).to).aA 0 then g8 else nU (P.av k).d.lo ⟨e1 (T q a).n (T k (T q a).to).n,(T k (T q a).to).to,2,min ((T k (T q a).to).gB+1) 99⟩)=c:=aN;cases aq:Nat.beq (T k (T q a).to).aA 0 with
   |true=>rw[aq,bg]at ua;subst ua;exact⟨bi _,bi _,bi _,bi _,λh=>absurd rfl h⟩
   |false=>
    rw[aq,bd]at ua;have iz:=aX ax;obtain⟨t,c3,au⟩:=h.s3 k (T q a).to af iz b2 bC λe=>by rw[e]at aq;cases aq
    rw[az]at c3;obtain⟨k9,hX,lL⟩:=h.rg k (T q a).to af iz;have cT:k' (bj P) q a (t+1) (T k (T q a).to).to (e1 (T q a).n (T k (T q a).to).n):=by have:=k'.more (m:=bj P) (q:=q) (a:=a) (by rw[aw]) (by rw[aw];exact bu) (by rw[aw];exact c3);rwa [aw]at this
    generalize ab:(⟨e1 (T q a).n (T k (T q a).to).n,(T k (T q a).to).to,2,min ((T k (T q a).to).gB+1) 99⟩:bW)=x at ua;obtain⟨f1,f2,f3⟩:=Vf (P.av k).d.lo x;rw[<-ua];subst ab;have hm:min ((T k (T q a).to).gB+1) 99=min (t+1) 99:=by omega
    refine⟨Vg _ _ rfl,by rw[f1];exact rr _ _,by rw[f2];exact hX,by rw[f3];exact Jc _ _,λ_=>⟨?_,t+1,by rw[f1,f2];exact cT,by rw[f3];exact hm⟩⟩;rw[F3 cT,Ve,hm,aeB eS]
def Vh(h:ib P N T):∀ (L:List Nat) (a n:Nat),(∀ q∈L,q<N)->a<=P.s.size->n<=1099511627776->(qn T L a n).aA<=2/\(qn T L a n).n<=1099511627776/\(qn T L a n).to<=P.s.size/\(qn T L a n).gB<=99
 |[],a,n,_,ax,an=>⟨b1 _,an,ax,bi _⟩
 |q::L,a,n,bQ,ax,an=>by
  unfold qn;cases Nat.beq (T q a).aA 2 with
  |true=>exact Vh h L _ _ (λq az=>bQ q (.tail _ az)) (h.rg q a (bQ q (.head _)) ax).2.1 (rr _ _)| false=>exact⟨h.aA q a,bi _,bi _,bi _⟩
def Vi(h:ib P N T):∀ (L:List Nat) (a:Nat),(∀ q∈L,q<N)->a<=P.s.size->(qo T L a).aA<=2/\(qo T L a).n<=1099511627776/\(qo T L a).to<=P.s.size/\(qo T L a).gB<=99
 |[],a,_,ax=>⟨by show 1<=2;omega,bi _,bi _,bi _⟩
 |q::L,a,bQ,ax=>by
  unfold qo;cases Nat.beq (T q a).aA 1 with
  |true=>exact Vi h L _ (λq az=>bQ q (.tail _ az)) ax| false=>exact⟨h.aA q a,h.rg q a (bQ q (.head _)) ax⟩
def Vj(h:ib P N T){q:Nat}(az:q<N){lo:Int}:∀ (j i a n:Nat),a<=P.s.size->n<=1099511627776->(pz T q lo j i a n).aA<=2/\(pz T q lo j i a n).n<=1099511627776/\(pz T q lo j i a n).to<=P.s.size/\(pz T q lo j i a n).gB<=99
 |0,i,a,n,ax,an=>⟨b1 _,an,ax,bi _⟩
 |j+1,i,a,n,ax,an=>by
  unfold pz;cases Nat.beq (T q a).aA 0||(Nat.beq (T q a).aA 1&&decide ((i:Int)<lo))with
  |true=>exact⟨h.aA q a,bi _,bi _,bi _⟩
  |false=>
   cases Nat.beq (T q a).aA 1 with
   |true=>exact⟨b1 _,an,ax,bi _⟩| false=>exact Vj h az j _ _ _ (h.rg q a az ax).2.1 (rr _ _)
def NW(h:ib P N T){k a:Nat}(af:k<N)(ax:a<=P.s.size)(an:tq P N k){c:bW}(aN:dZ P T k a=c) :
  c.aA<=2/\c.n<=1099511627776/\c.to<=P.s.size/\c.gB<=99/\(c.aA≠0->bj P k a=c.ce/\((P.av k).d.k=6->(P.av k).d.hi=-1->∃ t,k' (bj P) ((P.av k).bL.getD 0 0) a t c.to c.n/\c.gB=min t 99)):=by
 by_cases aP:(P.av k).d.k=6/\(P.av k).d.hi=-1
 ·have e:dZ P T k a=xB T k ((P.av k).bL.getD 0 0) (P.av k).d.lo a:=by simp[dZ,aP.1,aP.2]
  rw[e]at aN;obtain⟨U,aa,ae,aR,bn⟩:=aeC h af ax an aP.1 aP.2 aN;exact⟨U,aa,ae,aR,λaq=>⟨(bn aq).1,λ_ _=>(bn aq).2⟩⟩
 have NX:(P.av k).d.k=6->(P.av k).d.hi≠-1:=λU aa=>aP ⟨U,aa⟩;have ao:c.aA<=2/\c.n<=1099511627776/\c.to<=P.s.size/\c.gB<=99:=by
  subst aN;rcases y' (P.av k).d.k with e | e | e | e | e | e | e | e | e | ⟨cd,aC,ay,bf,b3,eY,g7,oB,px⟩;·simp only[dZ,e];exact⟨b1 _,bi _,ax,bi _⟩
  ·simp only[dZ,e];cases ag:P.s.data[a]? with
   |none=>exact⟨by show 1<=2;omega,bi _,bi _,bi _⟩
   |some b=>
    have aO:a<P.s.data.size:=(lv.1 ag).1;have ay:P.s.data.size=P.s.size:=rfl;simp only;cases rm (P.av k).d b.toNat;·exact⟨by show 1<=2;omega,bi _,bi _,bi _⟩
    ·exact⟨b1 _,bi _,by show a+1<=_;omega,bi _⟩
  ·simp only[dZ,e];cases aK:preB P.s (P.av k).d.t a with
   |false=>exact⟨by show 1<=2;omega,bi _,bi _,bi _⟩| true=>simp only[preB,cA,e7]at aK;exact⟨b1 _,bi _,aK.1,bi _⟩
  ·simp only[dZ,e];exact⟨h.aA _ _,h.rg _ _ (an.one (.inl e)) ax⟩
  ·simp only[dZ,e];exact Vh h _ _ _ an.bL ax (bi _)
  ·simp only[dZ,e];exact Vi h _ _ an.bL ax
  ·simp only[dZ,e,c0 (NX e)];exact Vj h (an.one (.inr (by omega))) _ _ _ _ ax (bi _)
  ·simp only[dZ,e];have:=h.aA ((P.av k).bL.getD 0 0) a;cases Nat.beq (T ((P.av k).bL.getD 0 0) a).aA 2
   ·exact⟨this,bi _,bi _,bi _⟩
   ·exact⟨b1 _,bi _,ax,bi _⟩
  ·simp only[dZ,e];cases Nat.beq (T ((P.av k).bL.getD 0 0) a).aA 1 with
   |true=>exact⟨b1 _,bi _,ax,bi _⟩
   |false=>
    cases Nat.beq (T ((P.av k).bL.getD 0 0) a).aA 2;·exact⟨bi _,bi _,bi _,bi _⟩
    ·exact⟨by show 1<=2;omega,bi _,bi _,bi _⟩
  ·have ar:dZ P T k a=bif Nat.beq (T ((P.av k).bL.getD 0 0) a).aA 2 then { T ((P.av k).bL.getD 0 0) a with n:=e1 (T ((P.av k).bL.getD 0 0) a).n 1 }else T ((P.av k).bL.getD 0 0) a:=by simp only[dZ,c0 cd,c0 aC,c0 ay,c0 bf,c0 b3,c0 eY,c0 g7,c0 oB,c0 px,bd]
   rw[ar];by_cases b2:6<=(P.av k).d.k
   ·have U:=h.aA ((P.av k).bL.getD 0 0) a;obtain⟨aa,ae,aR⟩:=h.rg ((P.av k).bL.getD 0 0) a (an.one (.inr b2)) ax;cases Nat.beq (T ((P.av k).bL.getD 0 0) a).aA 2
    ·exact⟨U,aa,ae,aR⟩
    ·exact⟨U,rr _ _,ae,aR⟩
   ·have:=an.fN;omega
 refine⟨ao.1,ao.2.1,ao.2.2.1,ao.2.2.2,λaq=>⟨?_,λb2 bC=>absurd bC (NX b2)⟩⟩;have ah:dQ c.ce:=(A0 ao.1).2 aq;rw[<-aN,Vb h.aA NX]at ah |-;have:=F1 h.le h.ge (bi _) ah;rw[<-this]at ah |-;exact NV ah
def ib.set(h:ib P N T){k a:Nat}(af:k<N)(ax:a<=P.s.size)(an:tq P N k){c:bW}(aN:dZ P T k a=c)(aq:c.aA≠0):ib P N (gn T k a c):=by
 obtain⟨F4,Vk,Vl,Vm,F5⟩:=NW h af ax an aN;obtain⟨F5,aeE⟩:=F5 aq;refine⟨λc7 bX=>?_,λc7 bX=>?_,λc7 bX=>?_,λc7 bX=>?_,λc7 bX=>?_⟩
 ·by_cases e:c7=k/\bX=a
  ·obtain⟨rfl,rfl⟩:=e;rw[C5];exact F4
  ·rw[xC e];exact h.aA _ _
 ·by_cases e:c7=k/\bX=a
  ·obtain⟨rfl,rfl⟩:=e;rw[C5];exact λ_=>F5
  ·rw[xC e];exact h.snd _ _
 ·by_cases e:c7=k/\bX=a
  ·obtain⟨rfl,rfl⟩:=e;rw[C5];exact λ_ _ b2 bC _=>aeE b2 bC
  ·rw[xC e];exact h.s3 _ _
 ·by_cases e:c7=k/\bX=a
  ·obtain⟨rfl,rfl⟩:=e;rw[C5];exact λ_ _=>⟨Vk,Vl,Vm⟩
  ·rw[xC e];exact h.rg _ _
 ·intro ab;rw[xC λe=>ab (by rw[e.1,e.2];exact⟨af,ax⟩)];exact h.out _ _ ab
def Vn{k a:Nat}(b2:(P.av k).d.k=6)(bC:(P.av k).d.hi=-1):dZ P T k a=xB T k ((P.av k).bL.getD 0 0) (P.av k).d.lo a:=by simp[dZ,b2,bC]
def Vo(lo:Int)(c:bW)(h:c.aA=2):(nU lo c).aA≠0:=by
 unfold nU;cases decide ((c.gB:Int)<lo)
 ·rw[bd,h];omega
 ·exact λh=>by cases h
def Vp{k q a:Nat}(h:(T q a).aA=1\/((T q a).aA=2/\(T q a).to≠a/\(T k (T q a).to).aA≠0)):(xB T k q lo a).aA≠0:=by
 unfold xB;rcases h with h | ⟨U,aa,ae⟩
 ·simp only[h];exact Vo _ _ rfl
 ·have ag:Nat.beq (T q a).to a=false:=by rw[xq];exact λe=>aa (cM e)
  have uo:Nat.beq (T k (T q a).to).aA 0=false:=by rw[xq];exact λe=>ae (cM e)
  simp only[U,ag,uo];exact Vo _ _ rfl
def aeF(h:ib P N T)(an:∀ k,k<N->tq P N k){a:Nat}(F6:∀ k b,a<b->(T k b).ce=bj P k b)(ed:∀ k,k<N->(T k a).aA=0->(dZ P T k a).aA=0)(ax:a<=P.s.size)(k:Nat):(T k a).ce=bj P k a:=by
 have bk:nS a (bj P) (hE T):=aey λk b ag ah=>by
  have aC:cX P (bj P) k b=cX P (hE T) k b:=F1 h.le h.ge (bi _) ah;have aw:bj P k b=cX P (hE T) k b:=by rw[<-aC];exact NV (by rw[aC];exact ah)
  by_cases v':b=a
  ·subst v';by_cases aq:(T k b).aA=0
   ·exfalso;by_cases af:k<N
    ·have aN:=ed k af aq;by_cases aP:(P.av k).d.k=6/\(P.av k).d.hi=-1
     ·rw[Vn aP.1 aP.2]at aN;rw[tn aP.1,aP.2]at ah;obtain⟨t,to,c,F3,-⟩:=Vc _ _ _ _ ah;generalize az:(P.av k).bL.getD 0 0=q at F3 aN;cases F3 with
      |stop U=>
       refine Vp (.inl ?_) aN;rcases rs (h.aA q b)with⟨e,a4⟩ | ⟨e,a4⟩ | ⟨e,a4⟩;·simp only[hE,a4,kH]at U;cases U
       ·exact e
       ·simp only[hE,a4]at U;cases U
      |more U bu r=>
       rcases rs (h.aA q b)with⟨e,a4⟩ | ⟨e,a4⟩ | ⟨e,a4⟩;·simp only[hE,a4,kH]at U;cases U
       ·simp only[hE,a4,iS]at U;cases U
       ·have hC:=h.cz q b;simp only[hE,a4]at hC bu r;obtain⟨aV,aX,bq⟩:=hC.ge rfl;simp only at aV aX;refine Vp (.inr ⟨e,bu,λcd=>?_⟩) aN;have hX:=r.mono h.le h.ge (bi _);have ay:=Vd aP.1 aP.2 (aX ax) (by rw[az];exact hX);have bf:=F6 k (T q b).to (by omega);have ox:dQ (bj P k (T q b).to):=by
         rw[ay];cases decide ((_:Int)<(P.av k).d.lo);·exact .inr rfl
         ·exact .inl rfl
        rw[<-bf]at ox;exact(A0 (h.aA _ _)).1 ox cd
     ·rw[<-Vb h.aA λU aa=>aP ⟨U,aa⟩]at ah;obtain⟨F4,-⟩:=NW h af ax (an k af) rfl;exact(A0 F4).1 ah aN
    ·have:=h.out k b λe=>af e.1;rw[aw]at this;rw[<-this]at ah;exact(A0 (h.aA _ _)).1 ah aq
   ·show(T k b).ce=_;rw[<-h.snd k b aq];exact aw
  ·show(T k b).ce=_;rw[F6 k b (by omega)];exact aw
 by_cases ah:dQ (bj P k a)
 ·exact bk k a (b1 _) ah
 ·by_cases aq:(T k a).aA=0
  ·rw[(tp P k a).zero ah];rcases rs (h.aA k a)with⟨e,a4⟩ | ⟨e,a4⟩ | ⟨e,a4⟩
   ·exact a4
   ·omega
   ·omega
  ·exact(h.snd k a aq).symm
def aeG(h:ib P N T){k a:Nat}(af:k<N)(ax:a<=P.s.size)(an:tq P N k)(he:(T k a).ce=bj P k a)(aq:(T k a).aA=0):(dZ P T k a).aA=0:=by obtain⟨F4,Vk,Vl,Vm,F5⟩:=NW h af ax an rfl;refine Co λbu=>?_;have e:=(F5 bu).1;rw[<-he]at e;have ah:=(A0 F4).2 bu;rw[<-e]at ah;exact(A0 (h.aA _ _)).1 ah aq
end
def aeH(x:Nat):min (e1 x 1) 65537=min (1+(min x 65537+0)) 65537:=by unfold e1;omega
def jV(c:b8):b8:=⟨min c.n 65537,c.to,c.aA⟩
def e6(z:Nat)(m:Nat->Nat->b8)(k p:Nat):b8:=bif Nat.ble p z then jV (m k p)else kH
def oD{m:Nat->Nat->b8}{k p:Nat}(h:p<=z):e6 z m k p=jV (m k p):=by unfold e6;rw[AR h];rfl
def Jt{m:Nat->Nat->b8}{k p:Nat}(h:dQ (e6 z m k p)):p<=z/\e6 z m k p=jV (m k p)/\dQ (m k p):=by
 unfold e6 at h |-;cases ag:Nat.ble p z with
 |false=>rw[ag]at h;exact absurd h nT| true=>rw[ag]at h;exact⟨bN ag,rfl,h⟩
def Vq{m m':Nat->Nat->b8}(h:nS 0 m m'):y5 (e6 z m) (e6 z m'):=λk p ah=>by obtain⟨U,aa,ae⟩:=Jt ah;rw[aa,oD U,h k p (bi _) ae]
def Vr{P:cu}{kn hq:Nat->Nat->b8}(bk:y5 kn hq){k pl:Nat}(ae:(hq k (pl-P.a0)).aA=3){parts:List (Nat×Nat)}(aK:jh P kn k pl parts){n0:Nat}{gi:List eD}(oU:ga P kn n0 parts gi){N:Nat}(aw:mb gi N)(fB:nf pl (hq k (pl-P.a0)).to gi)
  (aN:(hq k (pl-P.a0)).n=min ((if(P.av k).d.k=9 then 1 else 0)+N) 65537):∃ n l,ga P hq n [(k,pl)] l/\mb l (hq k (pl-P.a0)).n/\nf pl (hq k (pl-P.a0)).to l:=by
 by_cases aq:(hq k (pl-P.a0)).n=0
 ·exact⟨1,[],.zero ae aq .nil,⟨λ_=>aq.symm,λh=>by omega⟩,.nil fB.le⟩
 ·refine⟨n0+1,_,.node ae aq (aK.le bk) (l:=gi) (by rw[c8];exact oU.le bk),?_,?_⟩
  case refine_2=>
   unfold qm;cases decide ((P.av k).d.k=9)with
   |true=>exact .cap fB| false=>exact fB
  rw[aN];refine mb.cut ?_;unfold qm;by_cases ew:(P.av k).d.k=9;·rw[dd ew,gX ew,bg];exact mb.app (l:=[_]) (n:=1) ⟨λ_=>rfl,λh=>by omega⟩ aw
  ·rw[cG ew,c0 ew,bd,dK];exact aw
section
variable{z:Nat}{m:Nat->Nat->b8}(hm:∀ q b,jU z b (m q b))
include hm
theorem Vs{P:cu}(a1:P.s.size=z)(ag:P.a0=0)(k p:Nat):y4 P (P.a0+p) (e6 z m k p):=by
 rw[ag,dK];by_cases aK:p<=z
 ·rw[oD aK];rcases hm k p with e | e | ⟨U,aa,ae,aR⟩
  ·rw[e];exact⟨bi _,λh=>(by cases h),λ_=>⟨rfl,rfl⟩⟩
  ·rw[e];exact⟨by show 2<=3;omega,λh=>(by cases h),λ_=>⟨rfl,rfl⟩⟩
  ·refine⟨by show(m k p).aA<=3;omega,λ_=>⟨aa,by rw[a1];exact ae aK,Jc _ _⟩,λh=>absurd U h⟩
 ·have:e6 z m k p=kH:=by unfold e6;rw[xq.2 λe=>aK (bN e)];rfl
  rw[this];exact⟨bi _,λh=>(by cases h),λ_=>⟨rfl,rfl⟩⟩
theorem Vt:∀ (L:List Nat) (a n:Nat),(fO m L a n).aA=3->a<=z->allM (e6 z m) 0 L a/\(fO m L a n).to=ql (e6 z m) 0 L a/\min (fO m L a n).n 65537=min (n+mK (e6 z m) 0 L a) 65537
 |[],a,n,_,_=>⟨trivial,rfl,rfl⟩
 |q::L,a,n,h,ax=>by
  cases ae:Nat.beq (m q a).aA 3 with
  |false=>simp only[fO,ae,bd]at h;rw[h]at ae;cases ae| true=>have bf:=cM ae;have e:e6 z m q (a-0)=jV (m q a):=oD ax;obtain⟨aV,aX,bq⟩:=(hm q a).ge bf;simp only[fO,ae,bg]at h |-;obtain⟨i1,i2,i3⟩:=Vt L _ _ h (aX ax);simp only[allM,ql,mK,e];have qp:Nat.beq (jV (m q a)).aA 3=true:=ae;rw[qp,bg,bg];refine⟨⟨bf,i1⟩,i2,?_⟩;rw[i3];show min (e1 n (m q a).n+mK (e6 z m) 0 L (m q a).to) 65537=min (n+(min (m q a).n 65537+mK (e6 z m) 0 L (m q a).to)) 65537;unfold e1;omega
omit hm in
theorem Vu:∀ (L:List Nat) (a:Nat),(gb m L a).aA=3->a<=z->uB (e6 z m) 0 L a/\∃ q∈L,gb m L a=m q a/\l' (e6 z m) 0 L a=bif Nat.beq (jV (m q a)).n 0 then []else [(q,a)]
 |[],a,h,_=>by cases h
 |q::L,a,h,ax=>by
  have e:e6 z m q (a-0)=jV (m q a):=oD ax;cases aa:Nat.beq (m q a).aA 2 with
  |true=>have ay:=cM aa;simp only[gb,aa,bg]at h |-;obtain⟨i1,ft,i2,i3,i4⟩:=Vu L a h ax;have eF:(jV (m q a)).aA=2:=ay;simp only[uB,l',e,eF,i4];exact⟨.inr ⟨trivial,i1⟩,ft,.tail _ i2,i3,rfl⟩
  |false=>simp only[gb,aa,bd]at h |-;have qp:(jV (m q a)).aA=3:=h;refine⟨.inl (by rw[e];exact qp),q,.head _,rfl,?_⟩;simp only[l',e,qp];rfl
theorem Vv{q:Nat}{lo hi:Int}:∀ (j i a n:Nat),(ej m q lo hi j i a n).aA=3->a<=z->i+j<=1000000->(hi=-1\/((i+j:Nat):Int)=hi)->∃ r,k6 (e6 z m) 0 q hi i a (jg (e6 z m) 0 (List.replicate r q) a)/\allM (e6 z m) 0 (List.replicate r q) a /\ (ej m q lo hi j i a n).to=ql (e6 z m) 0 (List.replicate r q) a/\min (ej m q lo hi j i a n).n 65537=min (n+mK (e6 z m) 0 (List.replicate r q) a) 65537
 |0,i,a,n,h,ax,ak,bC=>by
  simp only[ej]at h |-;cases hu:decide (hi=-1)with
  |true=>rw[hu]at h;cases h
  |false=>
   have bu:=ct hu;refine⟨0,.stop ?_,trivial,rfl,rfl⟩;rcases bC with bC | bC;·exact absurd bC bu
   ·rw[<-bC,rW]
 |j+1,i,a,n,h,ax,ak,bC=>by
  have e:e6 z m q (a-0)=jV (m q a):=oD ax;have dw:(i:Int)≠hi:=by
   rcases bC with bC | bC<;>omega
  cases aa:Nat.beq (m q a).aA 2 with
  |true=>
   simp only[ej,aa,bg]at h |-;cases aw:decide ((i:Int)<lo)with
   |true=>rw[aw]at h;cases h| false=>exact⟨0,.fail dw (by rw[e];exact cM aa),trivial,rfl,rfl⟩
  |false=>
   cases ae:Nat.beq (m q a).aA 3 with
   |false=>simp only[ej,aa,ae,bd]at h;cases h
   |true=>
    have bf:=cM ae;obtain⟨aV,aX,bq⟩:=(hm q a).ge bf;simp only[ej,aa,ae,bd,bg]at h |-;cases hu:decide (hi=-1)&&decide ((m q a).to=a)with
    |true=>rw[hu]at h;cases h
    |false=>
     rw[hu,bd]at h;rw[bd];obtain⟨r,i0,i1,i2,i3⟩:=Vv j (i+1) _ _ h (aX ax) (by omega) (by rcases bC with bC | bC;exact .inl bC;exact .inr (by rw[<-bC];omega));have qp:Nat.beq (jV (m q a)).aA 3=true:=ae;refine⟨r+1,?_,?_⟩
     ·have:=k6.more (kn:=e6 z m) (a0:=0) (k:=q) (hi:=hi) (t:=i) (a:=a) (by omega) dw (by rw[e];exact bf) (by rw[e];exact i0);rw[e]at this;simp only[yZ,jg,e,qp,bg];cases F7:Nat.beq (jV (m q a)).n 0<;>rw[F7]at this<;>exact this
     ·simp only[yZ,allM,ql,mK,e,qp,bg];refine⟨⟨bf,i1⟩,i2,?_⟩;rw[i3];show min (e1 n (m q a).n+mK (e6 z m) 0 (List.replicate r q) (m q a).to) 65537=min (n+(min (m q a).n 65537+mK (e6 z m) 0 (List.replicate r q) (m q a).to)) 65537;unfold e1;omega
end
structure pA(P:cu)(k:Nat):Prop where
 fN:0<=(P.av k).d.k
 one:(P.av k).d.k=3\/6<=(P.av k).d.k->∃ q,(P.av k).bL=[q]
 lt:(P.av k).d.k<10
 l7:(P.av k).d.k=6->(P.av k).d.hi=-1\/(0<=(P.av k).d.hi/\(P.av k).d.hi<=99)
def aeI{P:cu}(ag:P.a0=0)(a1:P.s.size<=4096)(an:∀ k,pA P k){m:Nat->Nat->b8}(hm:∀ q b,jU P.s.size b (m q b))(bk:nS 0 m λk a=>cX P m k a)(aB:y6 P (e6 P.s.size m)):y6 P (e6 P.s.size λk a=>cX P m k a):=by
 intro k p ae;obtain⟨aK,he,ah⟩:=Jt (.inr ae);rw[he]at ae;have ae:(cX P m k p).aA=3:=ae;have hC:=NS hm rfl k p;obtain⟨aV,aX,bq⟩:=hC.ge ae;have cd:p=p-P.a0:=by rw[ag];rfl
 have Vw:=Vq (z:=P.s.size) bk;have a5:=Vs hm rfl ag;have la:=an k;rw[ag,dK];have zero:(cX P m k p).n=0->∃ n l,ga P (e6 P.s.size λk a=>cX P m k a) n [(k,p)] l/\mb l (e6 P.s.size (λk a=>cX P m k a) k p).n/\nf p (e6 P.s.size (λk a=>cX P m k a) k p).to l:=λaq=>by refine⟨1,[],.zero (by rw[<-cd,he];exact ae) (by rw[<-cd,he];show min (cX P m k p).n 65537=0;omega) .nil,?_,.nil (by rw[he];exact aV)⟩;rw[he];show mb [] (min (cX P m k p).n 65537);rw[aq];exact⟨λ_=>rfl,λh=>by omega⟩
 have many:∀ (L:List Nat),jh P (e6 P.s.size m) k p (jg (e6 P.s.size m) 0 L p)->allM (e6 P.s.size m) 0 L p->(cX P m k p).to=ql (e6 P.s.size m) 0 L p->min (cX P m k p).n 65537=min ((if(P.av k).d.k=9 then 1 else 0)+mK (e6 P.s.size m) 0 L p) 65537 ->
   ∃ n l,ga P (e6 P.s.size λk a=>cX P m k a) n [(k,p)] l/\mb l (e6 P.s.size (λk a=>cX P m k a) k p).n/\nf p (e6 P.s.size (λk a=>cX P m k a) k p).to l:=λL ru pB aeJ aeK=>by
  obtain⟨n0,gi,hY,hD,h'⟩:=Us a5 aB L p (by omega) (by rw[ag];exact pB);rw[ag]at hY hD h';have:=Vr Vw (k:=k) (pl:=p) (by rw[<-cd,he];exact ae) ru hY hD (by rw[<-cd,he];show nf p (cX P m k p).to gi;rw[aeJ];exact h') (by rw[<-cd,he];exact aeK);rwa [<-cd]at this
 rcases y' (P.av k).d.k with e | e | e | e | e | e | e | e | e | ⟨fN,db,cR,eB,ha,wa,zb,C6,C7⟩
 ·refine zero ?_;rw[uE e]
 ·refine zero ?_;rw[uF e];cases P.s.data[p]? with
  |none=>rfl| some b=>cases ag:rm (P.av k).d b.toNat<;>simp[ag,iS]
 ·refine zero ?_;rw[uG e];cases preB P.s (P.av k).d.t p<;>rfl
 ·obtain⟨q,az⟩:=la.one (.inl e);have lM:cX P m k p=m q p:=by rw[uH e,az];rfl
  have po:e6 P.s.size m q (p-0)=jV (m q p):=oD aK;rw[lM]at ae;have iR:(jV (m q p)).aA=3:=ae;refine many [q] ?_ ⟨by rw[po];exact iR,trivial⟩ ?_ ?_;·unfold jh;rw[cG (by omega),cG (by omega),az,ag];exact⟨⟨by rw[po];exact iR,trivial⟩,rfl⟩
  ·rw[lM];simp only[ql,po,iR];rfl
  ·rw[lM,cG (by omega)];simp only[mK,po,iR];show min (m q p).n 65537=min (0+(min (m q p).n 65537+0)) 65537;omega
 ·have lM:cX P m k p=fO m (P.av k).bL p 0:=v5 e;rw[lM]at ae;obtain⟨i1,i2,i3⟩:=Vt hm _ _ _ ae aK;refine many (P.av k).bL ?_ i1 (by rw[lM];exact i2) (by rw[lM,i3,cG (by omega)]);unfold jh;rw[cG (by omega),cG (by omega),ag];exact⟨i1,rfl⟩
 ·have lM:cX P m k p=gb m (P.av k).bL p:=v7 e;have aeL:=ae;rw[lM]at ae;obtain⟨i1,q,i2,i3,i4⟩:=Vu _ _ ae aK;rw[i3]at ae;have po:e6 P.s.size m q p=jV (m q p):=oD aK;obtain⟨gm,k8,hY,hD,h'⟩:=aB q p (by rw[po];exact ae);rw[ag,dK]at hY h';have oU:∃ g6 iT,ga P (e6 P.s.size m) g6 (l' (e6 P.s.size m) 0 (P.av k).bL p) iT/\mb iT (jV (m q p)).n/\nf p (m q p).to iT:=by
   rw[i4];rw[po]at hD h';cases F7:Nat.beq (jV (m q p)).n 0 with
   |true=>rw[bg];refine⟨0,[],.nil,?_,.nil h'.le⟩;rw[cM F7];exact⟨λ_=>rfl,λh=>by omega⟩| false=>exact⟨gm,k8,hY,hD,h'⟩
  obtain⟨g6,iT,k9,hX,lL⟩:=oU;have Ju:jh P (e6 P.s.size m) k p (l' (e6 P.s.size m) 0 (P.av k).bL p):=by unfold jh;rw[cG (by omega),dd e,ag];exact⟨i1,rfl⟩
  have:=Vr Vw (k:=k) (pl:=p) (by rw[<-cd,he];exact aeL) Ju k9 hX (by rw[<-cd,he];show nf p (cX P m k p).to iT;rw[lM,i3];exact lL) (by rw[<-cd,he,cG (by omega)];show min (cX P m k p).n 65537=min (0+min (m q p).n 65537) 65537;rw[lM,i3];omega);rwa [<-cd]at this
 ·have lM:=tn (m:=m) (a:=p) e;rw[lM]at ae;have nV:=la.l7 e;obtain⟨r,i0,i1,i2,i3⟩:=Vv hm _ _ _ _ ae aK (by
    unfold xA;cases hu:decide ((P.av k).d.hi=-1)with
    |true=>rw[bg];omega| false=>rw[bd];have:=ct hu;omega) (by
    unfold xA;rcases nV with U | U;·exact .inl U
    ·have:¬ (P.av k).d.hi=-1:=by omega
     rw[c0 this,bd];exact .inr (by omega))
  refine many (List.replicate r ((P.av k).bL.getD 0 0)) ?_ i1 (by rw[lM];exact i2) (by rw[lM,i3,cG (by omega)]);unfold jh;rw[dd e,ag];exact i0
 ·refine zero ?_;rw[st e]at ae |-;cases kK:Nat.beq (m ((P.av k).bL.getD 0 0) p).aA 3 with
  |true=>rfl| false=>rw[kK,bd]at ae;rw[ae]at kK;cases kK
 ·refine zero ?_;rw[su e]at ae |-;cases kq:Nat.beq (m ((P.av k).bL.getD 0 0) p).aA 2 with
  |true=>rfl
  |false=>
   rw[kq,bd]at ae;cases kK:Nat.beq (m ((P.av k).bL.getD 0 0) p).aA 3<;>rw[kK]at ae<;>cases ae
 ·have MP:6<=(P.av k).d.k:=by have:=la.fN;omega
  obtain⟨q,az⟩:=la.one (.inr MP);have lM:=uI (m:=m) (a:=p) fN db cR eB ha wa zb C6 C7;rw[az]at lM;have po:e6 P.s.size m q (p-0)=jV (m q p):=oD aK;have NY:([q]:List Nat).getD 0 0=q:=rfl;rw[NY]at lM;cases kK:Nat.beq (m q p).aA 3 with
  |false=>rw[lM,kK,bd]at ae;rw[ae]at kK;cases kK
  |true=>
   rw[kK,bg]at lM;have iR:(jV (m q p)).aA=3:=cM kK;refine many [q] ?_ ⟨by rw[po];exact iR,trivial⟩ ?_ ?_;·unfold jh;rw[cG (by omega),cG (by omega),az,ag];exact⟨⟨by rw[po];exact iR,trivial⟩,rfl⟩
   ·rw[lM];simp only[ql,po,iR];rfl
   ·rw[lM];have ew:(P.av k).d.k=9:=by have:=la.lt;omega
    rw[dd ew];simp only[mK,po,iR];exact aeH (m q p).n
noncomputable def cJ(P:cu):Nat->Nat->b8:=e6 P.s.size (bj P)
def Vx{P:cu}(ag:P.a0=0)(a1:P.s.size<=4096)(an:∀ k,pA P k):y6 P (cJ P):=by
 have step:∀ n,y6 P (e6 P.s.size (gC P n)):=λn=>by
  induction n with
  |zero=>intro k p ae;obtain⟨-,-,ah⟩:=Jt (.inr ae);exact absurd ah nT
  |succ n bc=>exact aeI ag a1 an (Jr P n) (NT P n) bc
 intro k p ae;obtain⟨aK,he,ah⟩:=Jt (.inr ae);obtain⟨n,an⟩:=py ah;have e:e6 P.s.size (gC P n) k p=e6 P.s.size (bj P) k p:=by rw[oD aK,oD aK,an]
 obtain⟨gm,l,hY,hD,h'⟩:=step n k p (by rw[e];exact ae);rw[e]at hD h';exact⟨gm,l,hY.le (Vq (U5 P n)),hD,h'⟩
def NZ{P:cu}(ag:P.a0=0)(k p:Nat):y4 P (P.a0+p) (cJ P k p):=Vs (tp P) rfl ag k p
structure dc where
 is:Nat
 to:Nat
 n:Nat
def dc.ce(c:dc):b8:=bif Nat.beq c.is 4 then⟨c.n,c.to,3⟩else bif Nat.beq c.is 3 then iS else kH
structure lN(P:cu)(f g:(Nat->Nat->b8)->b8):Prop where
 l:f (bj P)=g (bj P)
 d:∀ n,dQ (f (gC P n))->dQ (g (gC P n))
def lN.refl{P:cu}{f:(Nat->Nat->b8)->b8}:lN P f f:=⟨rfl,λ_ h=>h⟩
def lN.trans{P:cu}{f g h:(Nat->Nat->b8)->b8}(a:lN P f g)(b:lN P g h):lN P f h:=⟨a.l.trans b.l,λn x=>b.d n (a.d n x)⟩
def lN.ask{P:cu}{f g:(Nat->Nat->b8)->b8}{q a:Nat}(ah:∀ m,dQ (f m)->dQ (m q a))(he:∀ m:Nat->Nat->b8,m q a=bj P q a->f m=g m):lN P f g:=
 ⟨he _ rfl,λn h=>by
  have aa:=za (ah _ h);rw[he _ aa.symm]at h;exact h⟩
def ry(P:cu)(A:Nat->Nat->Prop)(f:(Nat->Nat->b8)->b8):Prop:=∀ n,dQ (f (gC P n))->∃ k a fA,fA<=n/\A k a/\dQ (gC P fA k a)
def qq(P:cu)(A:Nat->Nat->Prop)(k a:Nat):Prop:=∀ n,dQ (gC P n k a)->∃ c7 bX fA,fA<n/\A c7 bX/\dQ (gC P fA c7 bX)
def ry.to{P:cu}{f g:(Nat->Nat->b8)->b8}(h:ry P A g)(au:lN P f g):ry P A f:=λn ah=>h n (au.d n ah)
def ry.ask{P:cu}{f:(Nat->Nat->b8)->b8}{q a:Nat}(h:ry P A λm=>m q a)(ah:∀ m,dQ (f m)->dQ (m q a)):ry P A f:=λn ab=>h n (ah _ ab)
def ry.never{P:cu}{f:(Nat->Nat->b8)->b8}(h:∀ n,¬ dQ (f (gC P n))):ry P A f:=λn ab=>absurd ab (h n)
def qq.le{P:cu}{k a:Nat}(h:qq P A k a):ry P A λm=>m k a:=λn ah=>by obtain⟨c7,bX,fA,U,aa,ae⟩:=h n ah;exact⟨c7,bX,fA,Nat.le_of_lt U,aa,ae⟩
def aeM{P:cu}{k a:Nat}(h:ry P je λm=>cX P m k a)(eH:∀ x y,je x y->A x y\/(x=k/\y=a)):qq P A k a:=by
 intro n
 induction n using Nat.strongRecOn with
 |ind n bc=>
  intro ah;cases n with
  |zero=>exact absurd ah nT
  |succ n=>
   obtain⟨c7,bX,fA,U,aa,ae⟩:=h n ah;rcases eH _ _ aa with aa | ⟨rfl,rfl⟩;·exact⟨c7,bX,fA,by omega,aa,ae⟩
   ·obtain⟨x,y,g6,hY,hD,h'⟩:=bc fA (by omega) ae;exact⟨x,y,g6,by omega,hD,h'⟩
def qq.less{P:cu}{k a bX:Nat}(h:qq P je c7 bX)(ap:qq P A k a)(eH:∀ x y,je x y->A x y\/(x=k/\y=a)):qq P A c7 bX:=λn ah=>by
 obtain⟨x,y,fA,U,aa,ae⟩:=h n ah;rcases eH _ _ aa with aa | ⟨rfl,rfl⟩
 ·exact⟨x,y,fA,U,aa,ae⟩
 ·obtain⟨F8,Jv,g6,hY,hD,h'⟩:=ap fA ae;exact⟨F8,Jv,g6,by omega,hD,h'⟩
def qq.none{P:cu}{k a:Nat}(h:qq P A k a)(eH:∀ x y,¬ A x y):bj P k a=kH:=by refine(tp P k a).zero λah=>?_;obtain⟨n,an⟩:=py ah;rw[<-an]at ah;obtain⟨x,y,fA,U,aa,ae⟩:=h n ah;exact eH x y aa
def ry.none{P:cu}{k a:Nat}(h:ry P A λm=>m k a)(eH:∀ x y,¬ A x y):bj P k a=kH:=by refine(tp P k a).zero λah=>?_;obtain⟨n,an⟩:=py ah;rw[<-an]at ah;obtain⟨x,y,fA,U,aa,ae⟩:=h n ah;exact eH x y aa
section
variable{m:Nat->Nat->b8}{q a n:Nat}{L:List Nat}
def Vy(h:dQ (fO m (q::L) a n)):dQ (m q a):=by
 unfold fO at h;cases ae:Nat.beq (m q a).aA 3 with
 |true=>exact oA ae| false=>rw[ae,bd]at h;exact h
def Vz(h:dQ (gb m (q::L) a)):dQ (m q a):=by
 unfold gb at h;cases aa:Nat.beq (m q a).aA 2 with
 |true=>exact v8 aa| false=>rw[aa,bd]at h;exact h
def N0{j:Nat}(h:dQ (ej m q lo hi (j+1) i a n)):dQ (m q a):=by
 unfold ej at h;cases aa:Nat.beq (m q a).aA 2 with
 |true=>exact v8 aa
 |false=>
  cases ae:Nat.beq (m q a).aA 3 with
  |true=>exact oA ae| false=>rw[aa,ae]at h;exact absurd h nT
def Jw{P:cu}{k:Nat}(af:(P.av k).d.k=3\/(7<=(P.av k).d.k/\(P.av k).d.k<10))(az:(P.av k).bL.getD 0 0=q)(h:dQ (cX P m k a)):dQ (m q a):=by
 rcases y' (P.av k).d.k with e | e | e | e | e | e | e | e | e | ⟨fN,db,cR,eB,ha,wa,zb,C6,C7⟩
 ·omega
 ·omega
 ·omega
 ·rw[uH e,az]at h;exact h
 ·omega
 ·omega
 ·omega
 ·rw[st e,az]at h;cases ae:Nat.beq (m q a).aA 3 with
  |true=>exact oA ae| false=>rw[ae,bd]at h;exact h
 ·rw[su e,az]at h;cases aa:Nat.beq (m q a).aA 2 with
  |true=>exact v8 aa
  |false=>
   cases ae:Nat.beq (m q a).aA 3 with
   |true=>exact oA ae| false=>rw[aa,ae]at h;exact absurd h nT
 ·rw[uI fN db cR eB ha wa zb C6 C7,az]at h;cases ae:Nat.beq (m q a).aA 3 with
  |true=>exact oA ae| false=>rw[ae,bd]at h;exact h
end
section
variable{X:cW}{o:Oper}{F:Fr}{C:dM}{I:aH}{M:List aE}{K:gg}
def bp.C8(aP:cY X.P X.E)(ar:o.op=.convert src dst x)(ah:∀ d,o.dst=some d->d<X.n)
 (au:X.E src=some dn) (cO:dn.bK=.slice e) (he:X.E e=some aJ) (k0:aJ.bK=.int .u8) (js:X.E dst=some FN) (hW:FN.bK=.string)
 {n c:Nat} {l:List UInt8} (ab:bw F x=.val (.slice (some ad) n c)) (an:l.length=n) (bl:bD I M ad n (l.map λb=>.int .u8 b.toNat))
  (h:K (put o.dst (.val (.string ⟨l.toArray⟩)) F) C I M):bp X o F C I M K:=by
 subst an;refine⟨λa w Q ⟨β,a8⟩=>?_⟩;obtain⟨ap,cs,T,aj,af,ai,aw⟩:=bl;have aB:=af.heap a8.holds;obtain⟨d,fy,eX⟩:=(aP _ _ au).fk;have U:d=.slice e:=by rw[cO]at eX;cases d<;>simp_all[fj]
 subst U;obtain⟨d2,N1,ox⟩:=(aP _ _ he).fk;have aa:d2=.int .u8:=by rw[k0]at ox;cases d2<;>simp_all[fj]
 subst aa;obtain⟨d3,N2,AV⟩:=(aP _ _ js).fk;have ae:d3=.string:=by rw[hW]at AV;cases d3<;>simp_all[fj]
 subst ae;have aN:∀ j (ak:j<l.length),w.cell? (ad.add j)=some (.int .u8 (l[j].toNat:Int)):=by
  intro j ak;rw[ei ad ap,tU aB];have gx:(l.map λb=>Value.int .u8 b.toNat)[j]?=some (.int .u8 (l[j].toNat:Int)):=by simp[ak]
  rw[<-ai,lW,dd ak,qO]at gx;simpa using gx
 have ex:=dq a8.aj ab;refine yc a8 ah (by rw[ar];simp) ?_ h;unfold execOp;simp only[ar,ca,c5,ex,run_convert_bytes_back w src dst e ad c l fy N1 N2 aN,bR]
def aeN{P:Program}{t:Nat}(au:P.underlying t=some (.array 2 e)){k:IntKind}(he:P.underlying e=some (.int k)){inf:TypeInfo}(hi:P.info? e=some inf)(ap:inf.size=1)(d' cg kx b':Int)(w:World) :
  (Op.equal t (.agg #[.int k d',.int k cg]) (.agg #[.int k kx,.int k b'])).run P w=.ok (d' == kx&&cg == b') w:=by
 have Fm:∀ (xs:Array Value) (i:Nat) (v:Value) (w:World),xs[i]?=some v->(part e xs i).run P w=.ok v w:=λxs i v w h=>by
  have z0:(isAgg e).run P w=.ok false w:=by unfold isAgg;simp[run_underlying he]
  unfold part;simp[z0,sizeOf,typeInfo,hi,ap,h]
 have hint:∀ (d:Nat) (x y:Int) (w:World),(Op.equalIn (d+1) e (.int k x) (.int k y)).run P w=.ok (x == y) w:=λd x y w=>by simp[Op.equalIn,run_underlying he]
 have key:∀ m,(∀ (x y:Int) (w:World),(Op.equalIn m e (.int k x) (.int k y)).run P w=.ok (x == y) w)->(Op.equalIn (m+1) t (.agg #[.int k d',.int k cg]) (.agg #[.int k kx,.int k b'])).run P w=.ok (d' == kx&&cg == b') w:=λm hint=>by
  rw[Op.equalIn];simp only[ca,run_underlying au,bR,sizeOf,typeInfo,hi,run_program,c5,ap];simp only[LX];have ao:List.range' 0 ([:2]:Std.Legacy.Range).size=[0,1]:=by decide
  rw[ao];have pa:=λ(i:Nat) (v:Value) (w:World)=>Fm #[.int k d',.int k cg] i v w;have Au:=λ(i:Nat) (v:Value) (w:World)=>Fm #[.int k kx,.int k b'] i v w;simp only[L1,List.forIn_nil,ca];rw[pa (0*1) (.int k d') w rfl];simp only[bR,ca];rw[Au (0*1) (.int k kx) w rfl];simp only[bR,ca];rw[hint];simp only[bR];cases(d' == kx);·simp
  simp only[nE,j0,kO,c5,bR,ca];rw[pa (1*1) (.int k cg) w rfl];simp only[bR,ca];rw[Au (1*1) (.int k b') w rfl];simp only[bR,ca];rw[hint];simp only[bR];cases(cg == b');·simp
  simp
 exact key 9999 (hint 9998)
def cC.aeO{P:Program}(aP:cY P E){t:Nat}(au:E t=some dn)(cO:dn.bK=.array 2 e)(he:E e=some aJ){k:IntKind}(k0:aJ.bK=.int k)(aB:P.eqGuardType P.depth t=false){V:Value->Prop}
  (h:V (.bool (d' == kx&&cg == b'))):cC P .eql t x y (.val (.agg #[.int k d',.int k cg])) (.val (.agg #[.int k kx,.int k b'])) V other:=by
 obtain⟨d,fy,eX⟩:=(aP _ _ au).fk;obtain⟨p8,Fo,Mk⟩:=(aP _ _ he).fk;obtain⟨inf,z,hi,eA,_⟩:=(aP _ _ he).inf;have U:d=.array 2 e:=by rw[cO]at eX;cases d<;>simp_all[fj]
 have aa:p8=.int k:=by rw[k0]at Mk;cases p8<;>simp_all[fj]
 subst U;subst aa;have gT:inf.size=1:=by rw[eA];exact(aP _ _ he).HQ (by rw[k0];rfl)
 refine .mk _ _ _ rfl rfl (λw=>?_) h;simp only[ca,run_eqGuard_agg (hm:=aB),bR,binOp,aeN fy Fo hi gT,c5]
end
section
variable{X:cW}{F:Fr}{C:dM}{I:aH}{M:List aE}{o:Oper}{K:gg}
def bp.aeP(aP:cY X.P X.E)(ar:o.op=.convert src dst x)(ah:∀ d,o.dst=some d->d<X.n)
 (au:X.E src=some dn) (cO:dn.bK=.slice e) (he:X.E e=some aJ) (k0:aJ.bK=.int .u8) (js:X.E dst=some FN) (hW:FN.bK=.string)
  {c:Nat} (ab:bw F x=.val (.slice none 0 c))
  (h:K (put o.dst (.val (.string ⟨#[]⟩)) F) C I M):bp X o F C I M K:=by
 refine⟨λa w Q ⟨β,a8⟩=>?_⟩;obtain⟨d,fy,eX⟩:=(aP _ _ au).fk;have U:d=.slice e:=by rw[cO]at eX;cases d<;>simp_all[fj]
 subst U;obtain⟨d2,N1,ox⟩:=(aP _ _ he).fk;have aa:d2=.int .u8:=by rw[k0]at ox;cases d2<;>simp_all[fj]
 subst aa;obtain⟨d3,N2,AV⟩:=(aP _ _ js).fk;have ae:d3=.string:=by rw[hW]at AV;cases d3<;>simp_all[fj]
 subst ae;have ex:=dq a8.aj ab;refine yc a8 ah (by rw[ar];simp) ?_ h;unfold execOp;have fw:(convert src dst (.slice none 0 c)).run X.P w=.ok (.string ⟨#[]⟩) w:=by rw[run_convert_bytes_string w src dst e none 0 c fy N1 N2];rfl
 simp only[ar,ca,c5,ex,fw,bR]
end
def aZ.whole{P:Program}{f:Nat}(post:Value->aH->List aE->Prop)(ap:Spec P f args I M post)(k:∀ v I' M',(∀ b o,I b=some o->I' b=some o)->post v I' M'->K v I' M'):aZ b6 P f args I M K:=
 .mk M [] post (by simp) ap λv I' M' U aa=>by rw[c8];exact k v I' M' U aa
def kU.whole{soft:Bool}{P:Program}{f:Nat}(post:Value->aH->List aE->Prop)(ap:Spec P f args I M post)(q0:∀ v I' M',post v I' M'->∀ x∈M,x∈M')(k:∀ v I' M',(∀ b o,I b=some o->I' b=some o)->post v I' M'->K v I' M'):kU soft b6 P f args I M K:=
 .Sa M [] post (by simp) ap q0 λv I' M' U aa=>by rw[c8];exact k v I' M' U aa
def kU.VA{P:Program}{f:Nat}(post:Value->aH->List aE->Prop)(ap:Spec P f args I M post)(k:∀ v I' M',(∀ b o,I b=some o->I' b=some o)->post v I' M'->K v I' M'):kU true b6 P f args I M K:=
 .Sb rfl M [] post (by simp) ap λv I' M' U aa=>by rw[c8];exact k v I' M' U aa
section
variable{X:cW}{β:Nat->Nat}{a:Act}{w:World}{F:Fr}{C:dM}{I:aH}{M:List aE}{o:Oper}{K:gg}
def h1.uJ{M':List aE}(h:M=M'):h1 b6 I M I M':=by subst h;exact .refl
def bp.ir(h:bp X o F C I M λF C I M=>∃ I' M',h1 X.b6 I M I' M'/\K F C I' M'):bp X o F C I M K:=by obtain⟨h⟩:=h;refine⟨λa w Q a8=>sO ?_ (h a w Q a8)⟩;rintro bX w'⟨en,C',I',M',⟨β,ao⟩,eU,eJ,hw,af⟩;exact⟨en,C',eU,eJ,⟨β,ao.ir hw⟩,af⟩
def bp.tr(aP:cY X.P X.E){s:Operand}{t:Nat}(ar:o.op=.call { callee:=.builtin .append,args:=#[s,x],argTypes:=#[t,t] })(ah:∀ d,o.dst=some d->d<X.n)
 (au:X.E t=some dn) (cO:dn.bK=.slice e) (he:X.E e=some aJ)
  (os:a') (a5:os.ok aJ.size xs) (ap:bw F s=.val os.val)
  {b9:Nat} (ab:bw F x=.val (.slice (some ⟨b9,0,none⟩) 1 c')) (aw:cs.length=aJ.size) (U:gI cs=true)
  (a9 post:List aE) (bb:M=⟨b9,.cells cs.toArray e (0,0)⟩::(a9++(os.aQ e++post))) (b':os.n+1<=9223372036854775807) (ch:(os.n+1)*aJ.bytes<=140737488355328)
  (k:∀ bA:a',bA.n=os.n+1->(∀ g,bA.a=some g->I g=none)->bA.ok aJ.size (xs++cs)->K (put o.dst (.val bA.val) F) C I (a9++(bA.aQ e++post))):bp X o F C I M K:=by
 refine .ir (.yA aP ar ah au cO he os a5 ap (m:=1) (bV:=cs) ab (by decide) ?_ U (Mr:=⟨b9,.cells cs.toArray e (0,0)⟩::(a9++post)) ?_ (by unfold maxLen;exact b') ch ?_)
 ·rw[o0];refine⟨rfl,_,_,_,.inr ⟨⟨b9,.cells cs.toArray e (0,0)⟩,by rw[bb];exact .head _,rfl,rfl⟩,?_,aw⟩;simp only[oZ];exact g4 (by omega)
 ·rw[bb];have aa:(⟨b9,.cells cs.toArray e (0,0)⟩::(a9++(os.aQ e++post)):List aE).Perm (⟨b9,.cells cs.toArray e (0,0)⟩::(os.aQ e++(a9++post))):=.cons _ (vU _ _ _);exact aa.trans rj.symm
 ·intro g c aS bx dJ c9 dT fL;refine⟨I,a9++((⟨some g,os.n+1,c,aS⟩:a').aQ e++post),.sub (M1:=⟨g,.cells aS.toArray e (0,0)⟩::(a9++post)) (.cons_cons _ (.cons _ (.refl _))) (.perm ?_ .refl),k ⟨some g,os.n+1,c,aS⟩ rfl (λdz aB=>by cases aB;exact bx) ⟨?_,(λh=>by cases h),λdz aB=>?_⟩⟩
  ·exact rj.symm
  ·rw[b5,a5.len,aw,iJ,o0]
  ·cases aB;exact⟨dJ,c9,dT,fL⟩
def bp.N3(aP:cY X.P X.E){s:Operand}{t:Nat}(ar:o.op=.call { callee:=.builtin .append,args:=#[s,x],argTypes:=#[t,t] })(ah:∀ d,o.dst=some d->d<X.n)
 (au:X.E t=some dn) (cO:dn.bK=.slice e) (he:X.E e=some aJ)
  (os:a') (a5:os.ok aJ.size xs) (ap:bw F s=.val os.val)
  {sa:Option Addr} {m:Nat} {bV:List Value} (ab:bw F x=.val (.slice sa m c')) (aw:bV.length=m*aJ.size) (an:0<m->∃ ad,sa=some ad/\bD I M ad (m*aJ.size) bV) (U:gI bV=true)
  (a9 post:List aE) (bb:M=a9++(os.aQ e++post)) (b':os.n+m<=9223372036854775807) (ch:(os.n+m)*aJ.bytes<=140737488355328)
  (k:∀ bA:a',bA.n=os.n+m->(0<m->∀ g,bA.a=some g->I g=none)->bA.ok aJ.size (xs++bV)->K (put o.dst (.val bA.val) F) C I (a9++(bA.aQ e++post))):bp X o F C I M K:=by
 by_cases aq:m=0
 ·subst aq;have ob:bV=[]:=nB (by simpa using aw);subst ob;refine .ME aP ar ah au cO au (λk=>by rw[cO];simp) he (sa:=os.a.map λg=>⟨g,0,none⟩) (n:=os.n) (c:=os.c) ap ?_ ab (.inl ⟨_,_,rfl⟩) ?_
  ·cases ax:os.a with
   |none=>obtain⟨dJ,c9⟩:=a5.nil ax;omega
   |some g=>exact(a5.cap g ax).2.1
  ·have:=k os rfl (λh=>by omega) (by rw[c8];exact a5);rw[bb];exact this
 obtain⟨ad,rfl,bl⟩:=an (by omega);refine .ir (.yA aP ar ah au cO he os a5 ap (m:=m) (bV:=bV) ab (by omega) bl U (Mr:=a9++post) ?_ (by unfold maxLen;exact b') ch ?_)
 ·rw[bb];exact(vU _ _ _)
 ·intro g c aS bx dJ c9 dT fL;refine⟨I,a9++((⟨some g,os.n+m,c,aS⟩:a').aQ e++post),.perm ?_ .refl,k ⟨some g,os.n+m,c,aS⟩ rfl (λ_ dz aB=>by cases aB;exact bx) ⟨?_,(λh=>by cases h),λdz aB=>?_⟩⟩
  ·exact rj.symm
  ·rw[b5,a5.len,aw,iJ]
  ·cases aB;exact⟨dJ,c9,dT,fL⟩
end
def aeQ(a9 mid post:List Value)(k:Nat)(vs:List Value)(h:k+vs.length<=mid.length):bO (a9++(mid++post)) (a9.length+k) vs=a9++(bO mid k vs++post):=by
 unfold bO;have U:(a9++(mid++post)).take (a9.length+k)=a9++mid.take k:=by rw[Nn,FK,g4 (by omega),EU (by omega)]
 have aa:(a9++(mid++post)).drop (a9.length+k+vs.length)=mid.drop (k+vs.length)++post:=by rw[pR,R9,List.drop_append_of_le_length h]
 rw[U,aa];simp
def Jx(f:α->List Value)(size:Nat)(aF:∀ x,(f x).length=size)(l:List α)(i:Nat)(hi:i<l.length)(k:Nat)(vs:List Value)(af:k+vs.length<=size)(n7:α)(ab:bO (f l[i]) k vs=f n7) :
  bO (l.flatMap f) (i*size+k) vs=(l.set i n7).flatMap f:=by
 have e:l=l.take i++l[i]::l.drop (i+1):=by rw[<-eE hi,yH]
 have aC:l.flatMap f=(l.take i).flatMap f++(f l[i]++(l.drop (i+1)).flatMap f):=by
  calc l.flatMap f=(l.take i++l[i]::l.drop (i+1)).flatMap f:=congrArg _ e
   _=_:=by rw[jP,pZ]
 have ay:((l.take i).flatMap f).length=i*size:=by rw[g3 f size aF,I9 (by omega)]
 rw[aC,<-ay,aeQ _ _ _ _ _ (by rw[aF];exact af),Ib,dd hi,jP,pZ,ab]
def aeR{aS:List Value}{j m:Nat}(h:j+vs.length<=m)(hm:m<=aS.length):(bO aS j vs).take m=bO (aS.take m) j vs:=by
 unfold bO;have U:(aS.take m).take j=aS.take j:=by rw[yr,Ey (by omega)]
 have aa:(aS.take m).drop (j+vs.length)=(aS.drop (j+vs.length)).take (m-(j+vs.length)):=by rw[Ai]
 have ae:(aS.take j).length=j:=by rw[mV];omega
 rw[U,aa,eL,eL,Nn,ae,g4 (by omega),Nn,g4 (by omega:vs.length<=m-j)];congr 3;omega
def a'.put(f:α->List Value)(size:Nat)(aF:∀ x,(f x).length=size){l:List α}(h:os.ok size (l.flatMap f))(hi:i<l.length)(k:Nat)(af:k+vs.length<=size)(U:gI vs=true)(n7:α)(ab:bO (f l[i]) k vs=f n7)(a9 post:List aE)(bb:M=a9++(os.aQ e++post)){g off:Nat}(aB:os.a=some g)(aeS:off=i*size+k){K:List aE->Prop}
  (fD:∀ (bA:a'),bA.val=os.val->bA.a=os.a->bA.n=os.n->bA.ok size ((l.set i n7).flatMap f)->K (a9++(bA.aQ e++post))):cV M ⟨g,off,none⟩ vs K:=by
 have H0:=h.len;rw[g3 f size aF]at H0;obtain⟨a,n,c,aS⟩:=os;have aw:l.length*size=n*size:=H0;simp only at aB;subst aB;obtain⟨dJ,c9,dT,fL⟩:=h.cap g rfl;simp only at dJ c9 dT fL;have ag:n*size<=c*size:=rV _ c9;have gw:i*size+size<=l.length*size:=by have:=rV size (show i+1<=l.length from hi);rwa [iJ,o0]at this
 subst bb;subst aeS;refine cV.mk a9 post aS.toArray e rfl rfl ?_ U ?_
 ·simp only[qY];omega
 ·have:=fD ⟨some g,n,c,bO aS (i*size+k) vs⟩ rfl rfl rfl ⟨?_,(λh=>by cases h),λdz aB=>?_⟩
  ·simpa[a'.aQ]using this
  ·rw[g3 f size aF,AS];exact aw
  ·cases aB;refine⟨?_,c9,dT,?_⟩
   ·simp only[bO,b5,mV,yo];omega
   ·simp only;rw[aeR (by omega) (by omega),fL,Jx f size aF l i hi k vs af n7 ab]
def aeT(l:List Value)(k:Nat)(v:Value)(h:k<l.length):bO l k [v]=l.set k v:=by rw[Ib,dd h];simp[bO]
def a'.aeU(f:α->List Value)(size:Nat)(aF:∀ x,(f x).length=size){l:List α}(h:os.ok size (l.flatMap f))(hi:i<l.length)(k:Nat)(af:k+vs.length<=size)(U:gI vs=true)(n7:α)(ab:bO (f l[i]) k vs=f n7)(a9 post:List aE)(bb:M=a9++(os.aQ e++post))(bI:(os.a.map λg=>(⟨g,0,none⟩:Addr))=some ad){K:List aE->Prop}
  (fD:∀ (bA:a'),bA.val=os.val->bA.a=os.a->bA.n=os.n->bA.ok size ((l.set i n7).flatMap f)->K (a9++(bA.aQ e++post))):cV M ((ad.add (i*size)).add k) vs K:=by
 obtain⟨g,aB,rfl⟩:∃ g,os.a=some g/\ad=⟨g,0,none⟩:=by
  cases ax:os.a with
  |none=>rw[ax]at bI;cases bI| some g=>rw[ax]at bI;cases bI;exact⟨g,rfl,rfl⟩
 rw[ei (⟨g,0,none⟩:Addr) rfl,ei _ rfl];exact a'.put f size aF h hi k af U n7 ab a9 post bb aB (by simp) fD
def b8.cells(c:b8):List Value:=[.int .i32 c.n,.int .i16 c.to,.int .u8 c.aA]
def b8.da(c:b8):c.cells.length=3:=rfl
def pt.cells(f:pt):List Value:=[.int .i32 f.cn,.int .i32 f.pl,.int .i32 f.gB,.int .i32 f.to,.int .i32 f.n]
def pt.da(f:pt):f.cells.length=5:=rfl
structure tt where
 d:a3
 a:Option Addr
 n:Nat
 c:Nat
 bL:List Nat
def tt.cells(x:tt):List Value:=x.d.cells++[.slice x.a x.n x.c]
def tt.da(x:tt):x.cells.length=10:=rfl
structure tt.ok(I:aH)(x:tt):Prop where
 d:x.d.ok I
 a2:dX I x.a x.n x.c 1 8 (x.bL.map λ(k:Nat)=>Value.int .i64 (k:Int))
def tt.pn(x:tt):qk:=⟨x.d,x.bL⟩
structure F9 where
 xs:List tt
 a:Option Addr
 n:Nat
 c:Nat
structure F9.ok(I:aH)(x:F9):Prop where
 a2:dX I x.a x.n x.c 10 0 (x.xs.flatMap tt.cells)
 xs:∀ y∈x.xs,y.ok I
def F9.ok.n{x:F9}(h:x.ok I):x.xs.length=x.n:=by have:=h.a2.len;rw[g3 _ 10 tt.da]at this;omega
structure dE where
 lK:Nat
 rz:Nat
 s:ByteArray
 a0:Nat
 eI:Nat
 ns:F9
def dE.jW(m:dE):cu:=⟨m.ns.xs.map tt.pn,m.s,m.a0⟩
def dE.w(m:dE):Nat:=m.s.size-m.a0+1
def wrap_i32{x:Int}(U:-2147483648<=x)(aa:x<=2147483647):IntKind.i32.wrap x=x:=by unfold IntKind.wrap;simp only[IntKind.bits,IntKind.signed];simp;omega
def a'.av{f:α->List Value}(aF:∀ x,(f x).length=size)(aq:0<size){l:List α}(h:os.ok size (l.flatMap f))(bb:∀ x∈os.aQ e,x∈M){g:Nat}(aB:os.a=some g)(hi:i<l.length):bD I M ⟨g,i*size,none⟩ size (f l[i]):=by obtain⟨ad,bI,bl⟩:=a'.ok.row (I:=I) (M:=M) (e:=e) aF aq h bb hi;rw[aB]at bI;cases bI;rwa [ei _ rfl,dK]at bl
structure VB(os:a')(a6:List pt)(f:pt)(g:Nat):Prop where
 a:os.a=some g
 ok:os.ok 5 ((a6++[f]).flatMap pt.cells)
section
end
def aeV{w:Int}(hw:fo w)(k:Nat):decide (IntKind.u64.wrap ((BitVec.ofInt 64 (w.fdiv (2^k)) &&& BitVec.ofInt 64 1).toNat:Int)=1)=w.toNat.testBit k:=by
 obtain⟨n,rfl⟩:=iN hw.1;have an:n<18446744073709551616:=by have:=hw.2;omega
 have aC:((n:Int)).fdiv (2^k)=((n/2^k:Nat):Int):=by rw[IB _ (by exact Int.le_of_lt (Int.pow_pos (by decide)))];simp
 rw[aC];have ay:(BitVec.ofInt 64 ((n/2^k:Nat):Int) &&& BitVec.ofInt 64 1).toNat=n/2^k%2:=by
  have U:BitVec.ofInt 64 ((n/2^k:Nat):Int)=BitVec.ofNat 64 (n/2^k):=(show ∀ m:Nat,BitVec.ofInt 64 (m:Int)=BitVec.ofNat 64 m from λm=>by simp) _;have aa:BitVec.ofInt 64 1=BitVec.ofNat 64 1:=by decide
  rw[U,aa,IE,Nj,Nj];have ae:n/2^k%2^64=n/2^k:=Nat.mod_eq_of_lt (FL (Nat.div_le_self _ _) an);rw[ae,show 1%2^64=1 by decide,Nat.and_one_is_mod]
 rw[ay];have bf:IntKind.u64.wrap ((n/2^k%2:Nat):Int)=((n/2^k%2:Nat):Int):=by have:n/2^k%2<2:=Nat.mod_lt _ (by decide);unfold IntKind.wrap;simp only[IntKind.bits,IntKind.signed];simp;omega
 rw[bf,mm,T9,pQ];simp only[e7];omega
def aeW{a b c d:Int}(gl:∀ x∈[a,b,c,d],fo x)(x:UInt8):Spec Tryz.prog 66 [.agg #[.int .u64 a,.int .u64 b,.int .u64 c,.int .u64 d],.int .u8 x.toNat] I M
  λv I' M'=>v=.bool (([a,b,c,d].getD (x.toNat/64) 0).toNat.testBit (x.toNat%64))/\I'=I/\M'=M:=by
 refine bU [] aT Tryz.func66 rfl rfl rfl ?_;intro B aq;have ab:x.toNat<256:=x.toNat_lt;refine h0.mk (by decide) ?_;refine aW.mk ((x.toNat/64:Nat):Int) (by
  have:((x.toNat:Int)).tdiv 64=((x.toNat/64:Nat):Int):=by simp[I8]
  rw[this];unfold IntKind.wrap;simp only[IntKind.bits,IntKind.signed];simp;omega) ?_
 have ak:x.toNat/64=0\/x.toNat/64=1\/x.toNat/64=2\/x.toNat/64=3:=by omega
 have xv:((x.toNat:Int)).tmod 64=((x.toNat%64:Nat):Int):=by rw[Int.tmod_eq_emod_of_nonneg (by omega)];simp
 have xe:min (x.toNat%64) 64=x.toNat%64:=by omega
 have fin:∀ w:Int,fo w->Value.bool (decide (IntKind.u64.wrap ((BitVec.ofInt 64 (w.fdiv (2^(min (x.toNat%64) 64))) &&& BitVec.ofInt 64 1).toNat:Int)=1))=.bool (w.toNat.testBit (x.toNat%64)):=λw hw=>by rw[xe,aeV hw]
 rcases ak with e | e | e | e<;>rw[e]
 ·refine eN.mk 0 rfl (by decide) ?_;refine h0.mk (by decide) ?_;refine ya.mk _ xv ?_;exact⟨_,_,.refl,fin a (gl a (by simp)),rfl,rfl⟩
 ·refine eN.mk 1 rfl (by decide) ?_;refine h0.mk (by decide) ?_;refine ya.mk _ xv ?_;exact⟨_,_,.refl,fin b (gl b (by simp)),rfl,rfl⟩
 ·refine eN.mk 2 rfl (by decide) ?_;refine h0.mk (by decide) ?_;refine ya.mk _ xv ?_;exact⟨_,_,.refl,fin c (gl c (by simp)),rfl,rfl⟩
 ·refine eN.mk 3 rfl (by decide) ?_;refine h0.mk (by decide) ?_;refine ya.mk _ xv ?_;exact⟨_,_,.refl,fin d (gl d (by simp)),rfl,rfl⟩
def C9(s t:ByteArray):Bool:=decide (t.size<=s.size)&&decide (s.extract 0 t.size=t)
def aeX(s t:ByteArray):Spec Tryz.prog 228 [.string s,.string t] I M λv I' M'=>v=.bool (C9 s t)/\I'=I/\M'=M:=by
 refine bU [] aT Tryz.func228 rfl rfl rfl ?_;intro B aq;have ah:decide ((t.size:Int)<=(s.size:Int))=decide (t.size<=s.size):=by rw[pQ];simp only[e7];omega
 refine bP.mk (λh=>?_) (λh=>?_)
 ·have bh:(t.size:Int)<=(s.size:Int):=cv h;refine jl.mk 0 t.size rfl rfl (bi _) (by omega) ?_;refine⟨_,_,.refl,?_,rfl,rfl⟩;rw[C9,<-ah,show decide ((t.size:Int)<=(s.size:Int))=true from h,pf]
 ·refine⟨_,_,.refl,?_,rfl,rfl⟩;rw[C9,<-ah,show decide ((t.size:Int)<=(s.size:Int))=false from h,pe]
def aeY(s t:ByteArray):Spec Tryz.prog 202 [.string s,.string t] I M λv I' M'=>v=.bool (C9 s t)/\I'=I/\M'=M:=by refine bU [] aT Tryz.func202 rfl rfl rfl ?_;intro B aq;refine aZ.whole _ (aeX s t) ?_;rintro v I' M' -⟨rfl,rfl,rfl⟩;exact⟨_,_,.refl,rfl,rfl,rfl⟩
def aeZ(s t:ByteArray){a:Nat}(ax:a<=s.size):C9 (s.extract a s.size) t=preB s t a:=by
 have U:(s.extract a s.size).size=s.size-a:=by simp[EW]
 unfold C9 preB;rw[U];by_cases h:t.size<=s.size-a
 ·have ay:(s.extract a s.size).extract 0 t.size=s.extract a (a+t.size):=by rw[ByteArray.extract_extract];congr 1;omega
  rw[ay,gX h,gX (by omega:a+t.size<=s.size)]
 ·rw[c0 h,c0 (by omega:¬ a+t.size<=s.size)];rfl
end Go.V
