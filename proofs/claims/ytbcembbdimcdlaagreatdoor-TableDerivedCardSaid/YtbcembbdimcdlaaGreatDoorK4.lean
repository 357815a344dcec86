/- Part 4 of what the proofs of this seat share: the executor, data in memory, walks.
-/
import Derived.Test.YtbcembbdimcdlaaGreatDoorK3
import Derived.ChangeSame
import Derived.ChangeArms
import Derived.OpenShut
import Derived.Deep.DeepHandedRow
import Derived.Lib.LaidTab
import Derived.Test.YtbcembbdimcdlaaGreatDoorRows
import Derived.Test.YtbcembbdimcdlaaGreatDoorCards
import Derived.Test.YtbcembbdimcdlaaGreatDoorTie
import Derived.WalkKit
import Derived.ProofKit
import Derived.WideKeyArgs
import Derived.Below
import Derived.JoinedOf
import Derived.Test.YtbcembbdimcdlaaGreatDoorK2
set_option linter.all false
set_option maxHeartbeats 16000000
set_option maxRecDepth 100000
namespace Go.V
open Go Go.Proofs
def cx:=@of_decide_eq_false
def j0:=@Option.some.inj
def nV:=@List.getElem_of_mem
def r2:=@List.getElem_range
def qd:=@List.perm_middle
def lE:=@Nat.sub_self
def Ab:=@List.perm_append_comm_assoc
def vR:=@List.replicate_succ
def yO:=@List.set_append_right
def uu:=@List.mem_flatMap
def uv:=@List.length_set
def nW:=@Nat.ble_eq
def Ac:=@Nat.add_sub_cancel'
def Ek:=@List.getElem_append_left
def yP:=@Bool.eq_false_iff
def yQ:=@Nat.le_of_succ_le
def Ad:=@List.set_cons_zero
def Hk:=@List.idxOf_lt_length_of_mem
def Hl:=@List.getElem_append_right
def Hm:=@List.getLast?_eq_getElem?
def El:=@List.pairwise_append
def Em:=@List.reverse_append
def xh:=@Nat.sub_zero
def Hn:=@List.singleton_append
def En:=@List.foldl_append
def KW:=@List.getElem?_replicate
def Eo:=@List.flatMap_map
def Ho:=@List.getElem_idxOf
def KX:=@List.pairwise_flatMap
def Hp:=@List.take_append
def KY:=@DataW.trod_string
def Pa:=@List.getD_cons_zero
def Pb:=@List.replicate_zero
def Ep:=@decide_true
def Pc:=@Nat.lt_of_le_of_ne
def WC:=@List.pairwise_iff_getElem
def Pd:=@List.flatten_cons
def Er:=@Nat.mod_lt
def Pe:=@List.getElem_take
def Pf:=@DataW.trod_array
def KZ:=@Bool.true_or
def Pg:=@List.foldl_nil
variable{P:Program}{f z:Bool}{W lb:World}{s:ByteArray}{v:Value}{cs vs xs:List Value}{cE:Array Field}{sz size t e eZ aW h9 ln lc:Nat}{rows:List (List Value)}{g:dn}{α:Type}{L:List (Nat×Nat)}{I I':aR}{d:aM}{x y:Operand}{M M0:List aI}{os:a5}{p:List MemPlace}{hi:Int}{other:Prop}{dh ug:ec}{pl:List (ByteArray×Int)}{Ae:Option Addr}{ns:List aM}{a1:List Int}
def r3(W:World):aR:=λb=>W.heap[b]?
def agB(W:World):eI (r3 W) [] W:=⟨λb o h=>h,(λx ab=>by cases ab),(λx ab=>by cases ab),Bp⟩
structure Ck(W lb:World):Prop where
 dg:∀ b,b<W.heap.size->lb.heap[b]?=W.heap[b]?
 sz:W.heap.size<=lb.heap.size
 out:o1 W lb
def agC{f:Nat}{args:List Value}{post:Value->aR->List aI->Prop}(h:yf P f args (r3 W) [] post) :
  Calls P f args.toArray W λe lb=>∃ v,e=.returned v/\(∃ I' M',post v I' M')/\Ck W lb:=by
 refine(h.2 W (agB W)).mono ?_;rintro e lb⟨v,I',M',rfl,aD,_,fv⟩;exact⟨v,rfl,⟨I',M',aD⟩,λb ah=>fv.dg b ah (λy aH=>by cases aH),fv.sz,fv.out⟩
def Ck.kept(h:Ck W lb)(may:MemPlace->Prop):W.keptBut lb may:=by
 refine⟨h.out.1,h.out.2,λi hi=>?_⟩;rw[h.dg i hi];cases W.heap[i]? with
 |none=>rfl| some o=>cases o<;>simp
def Ck.frozen(h:Ck W lb){a:Addr}(aE:a.block<W.heap.size):lb.frozen? a=W.frozen? a:=by unfold World.frozen?;rw[h.dg _ aE]
variable{H:Type}{enc:TypeId×Value->H}{P:Program}
def agD{f:Func}{s:ChangeSpec}{apart fresh handsOn again:Bool}{args:Array Value}{ds gs:List (DataW H)}{before pa pv:List MemPlace}(hP:DataW.Whole enc P f.params.toList s.vars apart W args.toList ds gs before)(Hq:∀ (b:Nat) (fk:Nat->Bool) (ag:Bool),DataW.TrodAll enc P lb b fk ag f.resultTypes.toList (v.resultList f.resultTypes.size) (s.fn H (ds++gs)).results [])(nb:∀ fk:Nat->Bool,(∀ p∈before,fk p.block=true)->DataW.TrodAll enc P lb 0 fk true f.params.toList args.toList (s.fn H (ds++gs)).args pa)(WD:∀ fk:Nat->Bool,(∀ p∈before,fk p.block=true)->DataW.TrodVars enc P lb fk s.vars (s.fn H (ds++gs)).vars pv)(lF:before=pa++pv)(ae:Ck W lb)(bb:∀ (j:Nat) (t:TypeId) (r:Value),f.resultTypes[j]?=some t->(v.resultList f.resultTypes.size)[j]?=some r->Value.okWide P lb .any 0 t r) :
  s.post enc P f apart fresh handsOn again W args v lb:=by
 have hold:∀ p∈before,(λb=>decide (b<W.heap.size)) p.block=true:=λp aD=>by simpa using hP.lt p aD
 have aS:∀ p∈before,p.block<W.heap.size:=λp aD=>hP.lt p aD;refine⟨ds,gs,before,[],pa,pv,hP,Hq _ _ _,nb _ hold,WD _ hold,World.keptBut_mono (λp aD=>⟨aD,?_⟩) (ae.kept (·∈before)),λ_=>?_⟩
 ·rw[lF,dV]at aD;exact Or.inr aD
 ·obtain⟨_,_,_,_,_,a9,aw⟩:=hP;refine⟨bb,_,_,([]++pa)++pv,⟨[]++pa,pv,ChangeShapes.trodAll_append (nb _ (λ_ _=>rfl)) (Hq _ _ _),WD _ (λ_ _=>rfl),rfl,?_,?_⟩,?_⟩
  ·intro b off aD;have qe:MemPlace.cell b off∈before:=by rw[lF];simpa using aD
   rw[ae.frozen (a:=⟨b,off,none⟩) (aS _ qe)];exact a9 b off qe
  ·intro aE;have:=aw aE;rw[lF]at this;simpa using this
  ·intro p aD _;rw[lF];simpa using aD
def yR:DataW H->Option Value
 | .lit (.int k z)=>some (.int k z)| .lit (.string l)=>some (.string ⟨l.toArray⟩)| .lit (.bool b)=>some (.bool b)| _=>none
def Hr(P:Program)(e:TypeId):Bool:=match P.underlying e with
 |some .bool | some (.int _) | some .string=>true| _=>false
section
variable{w:World}{aW:Nat}{fk:Nat->Bool}{held:Bool}{eZ:Nat}{t e:TypeId}{cs:List Value}{d:DataW H}{p:List MemPlace}
def WE(he:Hr P e=true)(h:DataW.trod enc P w aW fk held eZ e cs=some (d,p))(ak:yR d=some v):cs=[v]:=by
 unfold Hr at he;split at he
 ·rename_i hu;obtain⟨b,rfl,ab⟩:=DataW.trod_bool hu h;cases ab;simpa[yR]using ak
 ·rename_i k hu;obtain⟨n,rfl,ab,_⟩:=DataW.trod_int hu h;cases ab;simpa[yR]using ak
 ·rename_i hu;obtain⟨s,rfl,ab,_⟩:=KY hu h;cases ab;simpa[yR]using ak
 ·cases he
def K0{α β:Type}{f:α->Option β}:∀ {l:List α} {r:List β},l.mapM f=some r->r.length=l.length/\∀ i (h:i<l.length) (be:i<r.length),f l[i]=some r[i]
 |[],r,h=>by simp at h;subst h;exact⟨rfl,λi h=>by simp at h⟩
 |x::l,r,h=>by
  simp only[F6,Option.bind_eq_bind,N1,Option.pure_def,kd]at h;obtain⟨b,ah,vr,hR,rfl⟩:=h;obtain⟨U,aa⟩:=K0 hR;refine⟨by simp[U],λi hi di=>?_⟩;cases i with
  |zero=>simpa using ah| succ i=>simpa using aa i (by simpa using hi) (by simpa using di)
def WG(ap:cs.length=vs.length)(h:∀ i (hi:i<vs.length),(cs.drop i).take 1=[vs[i]]):cs=vs:=by apply ys ap;intro i U aa;have:=h i aa;rw[e8 U,pU,nH]at this;simpa using this
def WH{n:Nat}(av:P.underlying t=some (.array n e))(he:Hr P e=true)(Cl:P.cellsOf e=1)(g0:P.cellsOf t=n){ds:List (DataW H)}(h:DataW.trod enc P w aW fk held eZ t cs=some (.agg ds,p))(ak:ds.mapM yR=some vs):cs=vs:=by
 obtain⟨xs,m,rfl,ab,ap,hc,hi⟩:=Pf av h;have jF:ds=xs.map (·.1):=by have:=congrArg Prod.fst ab;simpa using this
 obtain⟨aV,a3⟩:=K0 ak;have s9:vs.length=n:=by rw[aV,jF];simpa using hc
 refine WG (by rw[ap,g0,s9]) λi di=>?_;have U:=hi i (by omega);rw[Cl,iU]at U;have vS:i<xs.length:=by omega
 rw[eR vS]at U;have aa:=a3 i (by rw[jF];simpa using vS) di;have af:ds[i]'(by rw[jF];simpa using vS)=xs[i].1:=by simp[jF]
 rw[af]at aa;exact WE he (d:=xs[i].1) (p:=xs[i].2) U aa
def agE(av:P.underlying t=some (.struct cE))(aC:∀ (i:Nat) (f:Field),cE[i]?=some f->Hr P f.type=true/\f.offset=i/\P.cellsOf f.type=1)(g0:P.cellsOf t=cE.size){ds:List (DataW H)}(h:DataW.trod enc P w aW fk held eZ t cs=some (.agg ds,p))(ak:ds.mapM yR=some vs):cs=vs:=by
 obtain⟨xs,m,rfl,ab,ap,hc,hi⟩:=DataW.trod_struct av h;have jF:ds=xs.map (·.1):=by have:=congrArg Prod.fst ab;simpa using this
 obtain⟨aV,a3⟩:=K0 ak;have s9:vs.length=cE.size:=by rw[aV,jF];simpa using hc
 refine WG (by rw[ap,g0,s9]) λi di=>?_;have WI:i<cE.size:=by omega
 obtain⟨eJ,cU,hs⟩:=aC i cE[i] (F5 WI);have U:=hi i cE[i] (F5 WI);rw[cU,hs]at U;have vS:i<xs.length:=by omega
 rw[eR vS]at U;have aa:=a3 i (by rw[jF];simpa using vS) di;have af:ds[i]'(by rw[jF];simpa using vS)=xs[i].1:=by simp[jF]
 rw[af]at aa;exact WE eJ (d:=xs[i].1) (p:=xs[i].2) U aa
def WJ{sz:Nat}:∀ (rows:List (List Value)) (cs:List Value),cs.length=rows.length*sz->(∀ i (hi:i<rows.length),(cs.drop (i*sz)).take sz=rows[i])->cs=rows.flatten
 |[],cs,ap,_=>iT (by simpa using ap)
 |r::rows,cs,ap,h=>by
  have ao:=h 0 (by simp);simp only[BI,sQ,vt]at ao;rw[eQ,ji,oy]at ap;have a7:=WJ (sz:=sz) rows (cs.drop sz) (by rw[sO];omega) λi hi=>by have:=h (i+1) (by simpa using hi);rw[zJ,show sz+i*sz=(i+1)*sz from by rw[ji];omega];simpa using this
  rw[Pd,<-a7,<-ao,vB]
def agF{n:Nat}(av:P.underlying t=some (.array n e))(Cl:P.cellsOf e=sz)(g0:P.cellsOf t=n*sz){ds:List (DataW H)}(h:DataW.trod enc P w aW fk held eZ t cs=some (.agg ds,p))(ai:rows.length=ds.length)
  (hV:∀ i (hi:i<ds.length) (di:i<rows.length) eZ cs p,DataW.trod enc P w aW fk held eZ e cs=some (ds[i],p)->cs=rows[i]):cs=rows.flatten:=by
 obtain⟨xs,m,rfl,ab,ap,hc,hi⟩:=Pf av h;have jF:ds=xs.map (·.1):=by have:=congrArg Prod.fst ab;simpa using this
 have ek:rows.length=n:=by rw[ai,jF];simpa using hc
 refine WJ (sz:=sz) rows cs (by rw[ap,g0,ek]) λi di=>?_;have U:=hi i (by omega);rw[Cl]at U;have vS:i<xs.length:=by omega
 rw[eR vS]at U;have af:ds[i]'(by rw[jF];simpa using vS)=xs[i].1:=by simp[jF]
 exact hV i (by rw[jF];simpa using vS) di m _ xs[i].2 (by rw[af];exact U)
def WK(d:DataW H):Option (List Value):=match d with
 | .agg l=>l.mapM yR| _=>none
def Ph{n:Nat}(av:P.underlying t=some (.array n e))(Cl:P.cellsOf e=sz)(g0:P.cellsOf t=n*sz){ds:List (DataW H)}(h:DataW.trod enc P w aW fk held eZ t cs=some (.agg ds,p))(ai:ds.mapM WK=some rows)
  (hV:∀ eZ cs p l row,DataW.trod enc P w aW fk held eZ e cs=some (.agg l,p)->l.mapM yR=some row->cs=row):cs=rows.flatten:=by
 obtain⟨aV,a3⟩:=K0 ai;refine agF av Cl g0 h aV λi hi di eZ cs p be=>?_;have aa:=a3 i hi di;unfold WK at aa;split at aa
 ·rename_i l ap;rw[ap]at be;exact hV _ _ _ _ _ be aa
 ·cases aa
end
end Go.V
namespace Go.V
open Go Go.Proofs
variable{P:Program}{f z:Bool}{W lb:World}{s:ByteArray}{v:Value}{cs vs xs:List Value}{cE:Array Field}{sz size t e eZ aW h9 ln lc:Nat}{rows:List (List Value)}{g:dn}{α:Type}{L:List (Nat×Nat)}{I I':aR}{d:aM}{x y:Operand}{M M0:List aI}{os:a5}{p:List MemPlace}{hi:Int}{other:Prop}{dh ug:ec}{pl:List (ByteArray×Int)}{Ae:Option Addr}{ns:List aM}{a1:List Int}
def K1{n:String}{g:Nat}{cs:Array Value}(aA:P.globalNamed n=some g)(h:W.var? P n=some cs):∃ T al,W.heap[g]?=some (.cells cs T al):=by
 simp only[World.var?,aA,Option.bind_some]at h;split at h
 ·rename_i c T al bl;cases h;exact⟨T,al,bl⟩
 ·cases h
def oK:List Int:=[0,1,56,2,57,49,28,3,61,58,42,50,38,29,17,4,62,47,59,36,45,43,51,22,53,39,33,30,24,18,12,5,63,55,48,27,60,41,37,16,46,35,44,21,52,32,23,11,54,26,40,15,34,20,31,10,25,14,19,9,13,8,7,6]
def agG{bd:List (String×DataW Unit)}(h:laidMet Tryz.prog ([("math/bits.deBruijn32tab",YtbcembbdimcdlaaGreatDoor.Rows.laid_math_bits_deBruijn32tab),("math/bits.deBruijn64tab",YtbcembbdimcdlaaGreatDoor.Rows.laid_math_bits_deBruijn64tab),("internal/strconv.uint64pow10",YtbcembbdimcdlaaGreatDoor.Rows.laid_internal_strconv_uint64pow10),("bonsai/tree.counts",YtbcembbdimcdlaaGreatDoor.Rows.laid_bonsai_tree_counts),("bonsai/print.counts",YtbcembbdimcdlaaGreatDoor.Rows.laid_bonsai_print_counts),("bonsai/print.signs",YtbcembbdimcdlaaGreatDoor.Rows.laid_bonsai_print_signs)]++bd) W):hU (r3 W) oK:=by
 obtain⟨ps,cT,_⟩:=h;obtain⟨aV,t1,asg,f1,bC,fa,nQ,s3,yn,iX,cT,_⟩:=cT;obtain⟨a3,t2,agH,f2,p6,e6,kP,dZ,nF,qb,cT,_⟩:=cT;obtain⟨bW,t3,ash,f3,h',hC,oE,asi,r4,K2,cT,_⟩:=cT;obtain⟨fx,t4,agI,f4,agJ,k9,Cf,Pj,Pk,agK,cT,_⟩:=cT;obtain⟨p2,t5,agL,f5,asj,asl,WL,agM,K3,agN,cT,_⟩:=cT;obtain⟨K4,t6,agO,f6,asm,asn,WM,agP,agQ,agR,cT,_⟩:=cT;obtain rfl:=j0 ((show Tryz.prog.globalNamed "math/bits.deBruijn64tab" = some 4 by kernel_rfl).symm.trans kP)
 obtain rfl:=j0 ((show(Tryz.prog.globals[4]?).map (·.type)=some 378 by kernel_rfl).symm.trans dZ);obtain rfl:=j0 ((show Tryz.prog.globalNamed "bonsai/tree.counts" = some 0 by kernel_rfl).symm.trans Cf)
 obtain rfl:=j0 ((show(Tryz.prog.globals[0]?).map (·.type)=some 248 by kernel_rfl).symm.trans Pj);obtain rfl:=j0 ((show Tryz.prog.globalNamed "bonsai/print.counts" = some 2 by kernel_rfl).symm.trans WL)
 obtain rfl:=j0 ((show(Tryz.prog.globals[2]?).map (·.type)=some 341 by kernel_rfl).symm.trans agM);obtain rfl:=j0 ((show Tryz.prog.globalNamed "bonsai/print.signs" = some 1 by kernel_rfl).symm.trans WM)
 obtain rfl:=j0 ((show(Tryz.prog.globals[1]?).map (·.type)=some 303 by kernel_rfl).symm.trans agP);obtain⟨Ca,gw,cb⟩:=K1 kP nF;obtain⟨O4,oL,eM⟩:=K1 Cf Pk;obtain⟨agS,uw,en⟩:=K1 WL K3;obtain⟨agT,Hs,b6⟩:=K1 WM agQ;have dS:agH.toList=oK.map (Value.int .u8):=WH (show Tryz.prog.underlying 378=some (.array 64 5) by kernel_rfl) (by kernel_rfl) (by kernel_rfl) (by kernel_rfl) qb (by kernel_rfl);have ux:agI.toList=oC.map (Value.int .i64):=Ph (n:=10) (sz:=2) (show Tryz.prog.underlying 248=some (.array 10 247) by kernel_rfl) (by kernel_rfl) (by kernel_rfl) agK (rows:=[[.int .i64 0,.int .i64 0],[.int .i64 0,.int .i64 0],[.int .i64 0,.int .i64 0],[.int .i64 0,.int .i64 0],[.int .i64 2,.int .i64 (-1)],[.int .i64 2,.int .i64 (-1)],[.int .i64 1,.int .i64 1],[.int .i64 1,.int .i64 1],[.int .i64 1,.int .i64 1],[.int .i64 1,.int .i64 1]]) (by kernel_rfl) (λ_ _ _ _ _ U aa=>WH (show Tryz.prog.underlying 247=some (.array 2 3) by kernel_rfl) (by kernel_rfl) (by kernel_rfl) (by kernel_rfl) U aa);have fields:∀ {t:TypeId},(match Tryz.prog.underlying t with
   |some (.struct cE)=>decide (Tryz.prog.cellsOf t=cE.size)&&(List.range cE.size).all λi=>match cE[i]? with
    |some f=>Hr Tryz.prog f.type&&(decide (f.offset=i)&&decide (Tryz.prog.cellsOf f.type=1))| none=>false
   |_=>false)=true->∀ (eZ:Nat) (cs:List Value) (p:List MemPlace) (l:List (DataW Unit)) (row:List Value),DataW.trod (λ_=>()) Tryz.prog W 0 (λ_=>true) false eZ t cs=some (.agg l,p)->l.mapM yR=some row->cs=row:=by
  intro t aN eZ cs p l row U aa;split at aN;·rename_i cE hu;simp only[cp,e5,gh,kI]at aN;refine agE hu (λi f aC=>?_) aN.1 U aa;have hi:=aN.2 i (lS.1 aC).1;rw[aC]at hi;simpa using hi
  ·cases aN
 have K5:agL.toList=G6:=Ph (n:=3) (sz:=3) (show Tryz.prog.underlying 341=some (.array 3 340) by kernel_rfl) (by kernel_rfl) (by kernel_rfl) agN (rows:=[[.int .i64 0,.int .i64 1,.string ⟨#[63]⟩],[.int .i64 0,.int .i64 (-1),.string ⟨#[42]⟩],[.int .i64 1,.int .i64 (-1),.string ⟨#[43]⟩]]) (by kernel_rfl) (fields (by kernel_rfl));have WN:agO.toList=vI.map λl=>Value.string (strOf l):=Ph (n:=10) (sz:=3) (show Tryz.prog.underlying 303=some (.array 10 302) by kernel_rfl) (by kernel_rfl) (by kernel_rfl) agR (rows:=[[.string ⟨#[]⟩,.string ⟨#[]⟩,.string ⟨#[]⟩],[.string ⟨#[]⟩,.string ⟨#[]⟩,.string ⟨#[]⟩],[.string ⟨#[]⟩,.string ⟨#[]⟩,.string ⟨#[]⟩],[.string ⟨#[]⟩,.string ⟨#[]⟩,.string ⟨#[]⟩],[.string ⟨#[]⟩,.string ⟨#[32]⟩,.string ⟨#[]⟩],[.string ⟨#[]⟩,.string ⟨#[32,47,32]⟩,.string ⟨#[]⟩],[.string ⟨#[]⟩,.string ⟨#[]⟩,.string ⟨#[]⟩],[.string ⟨#[38]⟩,.string ⟨#[]⟩,.string ⟨#[]⟩],[.string ⟨#[33]⟩,.string ⟨#[]⟩,.string ⟨#[]⟩],[.string ⟨#[60]⟩,.string ⟨#[]⟩,.string ⟨#[62]⟩]]) (by kernel_rfl) (fields (by kernel_rfl));have arr:∀ {cs:Array Value} {l:List Value},cs.toList=l->cs=l.toArray:=λh=>by apply g2;simpa using h
 refine⟨⟨O4,oL,?_⟩,⟨agS,uw,?_⟩,⟨agT,Hs,?_⟩,by decide,by decide,Ca,gw,?_⟩
 ·rw[<-arr ux];exact eM
 ·rw[<-arr K5];exact en
 ·rw[<-arr WN];exact b6
 ·rw[<-arr dS];exact cb
def Es(cs:Array Value):Obj->Obj
 | .cells _ t al=>.cells cs t al| o=>o
def agU:List Int:=(List.range 20).map λi=>(10:Int)^i
def agV:List Int:=[0,1,28,2,29,14,24,3,30,22,20,15,25,17,4,8,31,27,13,23,21,19,16,7,26,12,18,6,11,5,10,9]
noncomputable def Pl(os:Os):World:=
 { World.holding Tryz.prog os ⟨#[],#[],[]⟩with heap:=((((((World.holding Tryz.prog os ⟨#[],#[],[]⟩).heap.modify 0 (Es (oC.map (Value.int .i64)).toArray)).modify 2 (Es G6.toArray)).modify 1 (Es (vI.map λl=>Value.string (strOf l)).toArray)).modify 4 (Es (oK.map (Value.int .u8)).toArray)).modify 3 (Es (agU.map (Value.int .u64)).toArray)).modify 5 (Es (agV.map (Value.int .u8)).toArray) }
def own:ownKnob Tryz.prog.godebug=none:=by kernel_rfl
def laidOut:laidOutB Tryz.prog=true:=by kernel_rfl
def WO{l:List α}{q:α->Bool}(h:l.all q=true){x:α}(ab:x∈l):q x=true:=gh.1 h x ab
def agW{L:List (String×DataW Unit)}(cT:laidMetH Tryz.prog L W)(he:L=[("math/bits.deBruijn32tab",YtbcembbdimcdlaaGreatDoor.Rows.laid_math_bits_deBruijn32tab),("math/bits.deBruijn64tab",YtbcembbdimcdlaaGreatDoor.Rows.laid_math_bits_deBruijn64tab),("internal/strconv.uint64pow10",YtbcembbdimcdlaaGreatDoor.Rows.laid_internal_strconv_uint64pow10),("bonsai/tree.counts",YtbcembbdimcdlaaGreatDoor.Rows.laid_bonsai_tree_counts),("bonsai/print.counts",YtbcembbdimcdlaaGreatDoor.Rows.laid_bonsai_print_counts),("bonsai/print.signs",YtbcembbdimcdlaaGreatDoor.Rows.laid_bonsai_print_signs)]):hU (r3 W) oK:=by
 subst he;exact agG (bd:=[]) cT
structure Cm(I:aR)(d:aM):Prop where
 k:0<=d.k/\d.k<256
 eO:gY d.eO
 s1:gY d.s1
 s2:gY d.s2
 eU:gY d.eU
 lo:my d.lo
 hi:my d.hi
 bg:dA I d.iW d.kn d.iz 1 0 (d.ax.map (.int .i64 ·))
 ax:∀ x∈d.ax,my x
 ts:d.t.size<=9223372036854775807
structure Af(I:aR)(t:bN):Prop where
 bg:dA I t.a t.n t.c 9 0 (t.ns.flatMap aM.cells)
 ns:∀ d∈t.ns,Cm I d
 bF:my t.bF
structure Ht(I:aR)(d:bI):Prop where
 name:d.name.size<=9223372036854775807
 t:Af I d.t
structure xi(I:aR)(g:dn):Prop where
 bg:dA I g.a g.n g.c 3 0 (g.ds.flatMap bI.cells)
 ds:∀ d∈g.ds,Ht I d
def dA.Et{a:Option Addr}{n c b hJ:Nat}(h:dA I a n c size b vs)(ah:n*hJ<=140737488355328):dA I a n c size hJ vs:=⟨h.len,⟨h.cap.1,ah⟩,h.rd⟩
structure WQ(d:aM):Prop where
 kn:d.kn<2500
structure WR(d:bI):Prop where
 name:d.name.size<2500
 n:d.t.n<2500
 ns:∀ cd∈d.t.ns,WQ cd
structure agX(g:dn):Prop where
 n:g.n<2500
 ds:∀ d∈g.ds,WR d
def Cm.ok(h:Cm I d)(ar:WQ d):d.ok I:=
 ⟨h.k,h.eO,h.s1,h.s2,h.eU,h.ts,h.lo,h.hi,h.bg.Et (by have:=ar.kn;omega),h.ax⟩
def Ht.ok{d:bI}(h:Ht I d)(ar:WR d):d.ok I:=
 ⟨by have:=ar.name;omega,⟨h.t.bg.Et (by have:=ar.n;omega),λcd cf=>(h.t.ns cd cf).ok (ar.ns cd cf),h.t.bF⟩⟩
def xi.ok(h:xi I g)(ar:agX g):g.ok I:=
 ⟨h.bg.Et (by have:=ar.n;omega),λd ag=>(h.ds d ag).ok (ar.ds d ag)⟩
def xi.n(h:xi I g):g.ds.length=g.n:=by have:=h.bg.len;rw[fb _ 3 bI.de]at this;omega
def Af.n{t:bN}(h:Af I t):t.ns.length=t.n:=by have:=h.bg.len;rw[fb _ 9 aM.de]at this;omega
def fK{x r:Int}(h:x=r)(ai:-9223372036854775808<=r/\r<=9223372036854775807):IntKind.i64.wrap x=r:=by rw[h];exact wrap_i64 ai
def a5.WS{l:List Int}(h:os.ok 1 (l.map (.int .i64 ·)))(a2:∀ x∈os.aL e,x∈M){j:Nat}(aj:j<l.length) :
  ∃ ad,(os.a.map λg=>(⟨g,0,none⟩:Addr))=some ad/\cq I M (ad.add (j*1)) 1 [.int .i64 l[j]]:=by
 obtain⟨a,n,c,aQ⟩:=os;have ap:=h.Hj;simp only at ap;cases a with
 |none=>have:=(h.nil rfl).1;simp only at this;omega
 |some g=>
  obtain⟨U,aa,af,aP⟩:=h.cap g rfl;simp only at U aa aP;refine⟨⟨g,0,none⟩,rfl,?_⟩;rw[eo _ rfl];refine⟨rfl,_,_,_,.inr ⟨⟨g,.cells aQ.toArray e (0,0)⟩,a2 _ (by simp[a5.aL]),rfl,rfl⟩,?_,rfl⟩;simp only[dz,iU];have jS:j<(l.map (Value.int .i64)).length:=by simpa using aj
  have az:(aQ.take (n*1))[j]?=some (.int .i64 l[j]):=by rw[aP];simp[aj]
  rw[lp]at az;have pt:j<n*1:=by omega
  rw[cG pt]at az;have WT:j<aQ.length:=(kc.1 az).1;rw[e8 WT,pU,nH];rw[eR WT]at az;rw[j0 az]
section
variable{H:Type}{enc:TypeId×Value->H}{P:Program}{W:World}{aW:Nat}{fk:Nat->Bool}{held:Bool}
def WU{α:Type}{p:Nat->α->Prop}:∀ (n:Nat),(∀ i,i<n->∃ d,p i d)->∃ l:List α,l.length=n/\∀ i (h:i<l.length),p i l[i]
 |0,_=>⟨[],rfl,λi h=>by simp at h⟩
 |n+1,h=>by
  obtain⟨l,U,aa⟩:=WU n λi hi=>h i (by omega);obtain⟨d,ag⟩:=h n (by omega);refine⟨l++[d],by simp[U],λi hi=>?_⟩;by_cases aS:i<l.length;·rw[Ek aS];exact aa i aS
  ·have e:i=l.length:=by simp at hi;omega
   subst e;simpa[U]using ag
def Pm{f:α->List Value}(ar:0<size)(aC:∀ x,(f x).length=size)(ok:α->Prop){t e:TypeId}(av:P.underlying t=some (.slice e))(aN:P.cellsOf e=size)(hV:∀ eZ cs x,DataW.trod enc P W aW fk held eZ e cs=some x->∃ d,cs=f d/\ok d){x:DataW H×List MemPlace}(h:DataW.trod enc P W aW fk held eZ t cs=some x) :
  ∃ (a:Option Addr) (n c:Nat) (l:List α),cs=[.slice a n c]/\dA (r3 W) a n c size 0 (l.flatMap f)/\l.length=n/\(∀ d∈l,ok d)/\(a=none->c=0)/\c<=maxLen:=by
 rcases DataW.trod_slice av h with⟨rfl,_⟩ | ⟨a,len,cap,aso,bd,m,_,rfl,_,ah,ap,hm,b3,agY,_,_⟩
 ·exact⟨none,0,0,[],rfl,⟨by simp,⟨bY _,by omega⟩,.inl rfl⟩,rfl,λd ag=>by simp at ag,λ_=>rfl,by unfold maxLen;omega⟩
 have each:∀ i,i<len->∃ d,ok d/\W.cells? aW (a.add (i*size)) size=some (f d):=λi hi=>by have U:=agY i hi;rw[aN,eR (by omega)]at U;obtain⟨cs',aa,af⟩:=N1.1 U;obtain⟨d,rfl,ag⟩:=hV _ _ _ af;exact⟨d,ag,aa⟩
 obtain⟨l,tS,Pn⟩:=WU len each;refine⟨some a,len,cap,l,rfl,⟨by rw[fb f size aC,tS],⟨ap,by omega⟩,?_⟩,tS,λd ag=>?_,λh=>by simp at h,hm⟩
 ·by_cases ao:len=0
  ·exact .inl ao
  right
  have qf:=(Pn 0 (by omega)).2;obtain⟨-,-,yS⟩:=World.cells?_some qf;have K6:=yS 0 ar;rw[eR (by rw[aC];exact ar)]at K6;have WV:a.spot=none:=by
   have:=World.cell?_spot K6;cases cg:a.spot with
   |none=>rfl| some s=>simp[Addr.add,cg]at this
  refine⟨a,rfl,WV,?_⟩;have WW:∀ i (hi:i<l.length),∀ k,k<size->W.cell? ⟨a.block,a.off+(i*size+k),none⟩=(f l[i])[k]?:=λi hi k ae=>by obtain⟨-,-,bl⟩:=World.cells?_some (Pn i hi).2;have:=bl k ae;rw[eo _ WV,eo _ rfl]at this;rw[<-this];congr 2;simp only[];omega
  have Po:∃ cs T al,W.heap[a.block]?=some (.cells cs T al):=by
   have U:=WW 0 (by omega) 0 ar;rw[eR (by rw[aC];exact ar)]at U;unfold World.cell? at U;cases bl:W.heap[a.block]? with
   |none=>simp[bl]at U
   |some o=>
    cases o with
    |cells cs T al=>exact⟨cs,T,al,rfl⟩| _=>simp[bl]at U
  obtain⟨cs,T,al,bl⟩:=Po;refine⟨cs,T,al,bl,?_⟩;have ld:=fb f size aC l;apply DW;intro j;by_cases aj:j<len*size
  ·have hdiv:j/size<l.length:=by rw[tS];exact Nat.div_lt_of_lt_mul (by rw[Nat.mul_comm];exact aj)
   have yT:=Er j ar;have e:=Nat.div_add_mod j size;rw[Nat.mul_comm]at e;have U:=WW (j/size) hdiv (j%size) yT;rw[e]at U;have aa:=yB f size aC l (j/size) hdiv;have af:(l.flatMap f)[j]?=(f l[j/size])[j%size]?:=by rw[<-aa,lp,cG yT,om,e]
   rw[af,<-U,lp,cG aj,om];simp[World.cell?,bl]
  ·rw[o5 (by rw[gr];omega),o5 (by rw[ld,tS];omega)]
 ·obtain⟨i,hi,rfl⟩:=nV ag;exact(Pn i hi).1
def Cn{k:IntKind}{t:TypeId}{x:DataW H×List MemPlace}(av:P.underlying t=some (.int k))(h:DataW.trod enc P W aW fk held eZ t cs=some x):∃ n,cs=[.int k n]/\(Lit.int k n).wf=true:=by obtain⟨n,U,_,aa⟩:=DataW.trod_int av h;exact⟨n,U,aa⟩
def wf_i64{n:Int}(h:(Lit.int .i64 n).wf=true):my n:=by simp[Lit.wf,IntKind.min,IntKind.max,IntKind.signed,IntKind.bits]at h;exact h
def wf_u64{n:Int}(h:(Lit.int .u64 n).wf=true):gY n:=by simp[Lit.wf,IntKind.min,IntKind.max,IntKind.signed,IntKind.bits]at h;unfold gY;omega
def wf_u8{n:Int}(h:(Lit.int .u8 n).wf=true):0<=n/\n<256:=by simp[Lit.wf,IntKind.min,IntKind.max,IntKind.signed,IntKind.bits]at h;omega
end
section
variable{H:Type}{enc:TypeId×Value->H}{W:World}{aW:Nat}{fk:Nat->Bool}{held:Bool}
def agZ{x:DataW H×List MemPlace}(h:DataW.trod enc Tryz.prog W aW fk held eZ 57 cs=some x) :
  ∃ (a:Option Addr) (n c:Nat) (l:List Int),cs=[.slice a n c]/\dA (r3 W) a n c 1 0 (l.map (.int .i64 ·))/\l.length=n/\∀ k∈l,my k:=by
 obtain⟨a,n,c,l,U,aa,af,aP,-,-⟩:=Pm (f:=λk=>[Value.int .i64 k]) (size:=1) (by decide) (λ_=>rfl) my (show Tryz.prog.underlying 57=some (.slice 3) by kernel_rfl) (by kernel_rfl)
  (λeZ cs x h=>by
   obtain⟨n,U,aa⟩:=Cn (show Tryz.prog.underlying 3=some (.int .i64) by kernel_rfl) h;exact⟨n,U,wf_i64 aa⟩) h
 refine⟨a,n,c,l,U,?_,af,aP⟩;rwa [<-List.map_eq_flatMap]at aa
def ag0{l:List α}(h:l.length=4):∃ a b c d,l=[a,b,c,d]:=by
 match l,h with
 |[a,b,c,d],_=>exact⟨a,b,c,d,rfl⟩
def ag1{l:List α}(h:l.length=9):∃ a b c d e f g i j,l=[a,b,c,d,e,f,g,i,j]:=by
 match l,h with
 |[a,b,c,d,e,f,g,i,j],_=>exact⟨a,b,c,d,e,f,g,i,j,rfl⟩
def ag2{l:List α}(h:l.length=3):∃ a b c,l=[a,b,c]:=by
 match l,h with
 |[a,b,c],_=>exact⟨a,b,c,rfl⟩
def ag3{l:List α}(h:l.length=2):∃ a b,l=[a,b]:=by
 match l,h with
 |[a,b],_=>exact⟨a,b,rfl⟩
def ag4{l:List α}(h:l.length=1):∃ a,l=[a]:=by
 match l,h with
 |[a],_=>exact⟨a,rfl⟩
def ag5{x:DataW H×List MemPlace}(h:DataW.trod enc Tryz.prog W aW fk held eZ 56 cs=some x) :
  ∃ a b c d:Int,cs=[.int .u64 a,.int .u64 b,.int .u64 c,.int .u64 d]/\gY a/\gY b/\gY c/\gY d:=by
 obtain⟨xs,m,_,_,ap,hc,hi⟩:=Pf (show Tryz.prog.underlying 56=some (.array 4 54) by kernel_rfl) h;rw[show Tryz.prog.cellsOf 56=4 by kernel_rfl]at ap;rw[show Tryz.prog.cellsOf 54=1 by kernel_rfl]at hi;have hu:Tryz.prog.underlying 54=some (.int .u64):=by kernel_rfl
 obtain⟨a,b,c,d,rfl⟩:=ag0 ap;have get:∀ i,(kj:i<4)->∃ n,(([a,b,c,d]:List Value).drop (i*1)).take 1=[.int .u64 n]/\gY n:=λi kj=>by have U:=hi i kj;rw[eR (by omega)]at U;obtain⟨n,aa,af⟩:=Cn hu U;exact⟨n,aa,wf_u64 af⟩
 obtain⟨n0,cJ,j1⟩:=get 0 (by decide);obtain⟨gf,az,eJ⟩:=get 1 (by decide);obtain⟨eV,aF,cU⟩:=get 2 (by decide);obtain⟨Eu,bo,hs⟩:=get 3 (by decide);simp at cJ az aF bo;subst cJ az aF bo;exact⟨_,_,_,_,rfl,j1,eJ,cU,hs⟩
def Hu{l:List (Nat×Nat)}(h:(match P.underlying t with
  |some (.struct cE)=>decide (cE.toList.map (λf=>(f.type,f.offset))=l)| _=>false)=true):∃ cE,P.underlying t=some (.struct cE)/\cE.toList.map (λf=>(f.type,f.offset))=l:=by
 split at h
 ·rename_i cE hu;exact⟨cE,hu,bS h⟩
 ·cases h
def K7{P:Program}{l:List (Nat×Nat)}{q:Nat->Nat->Prop}(aC:cE.toList.map (λf=>(f.type,f.offset))=l)(h:∀ (i:Nat) (f:Field),cE[i]?=some f->q f.type f.offset):∀ (i t o:Nat),l[i]?=some (t,o)->q t o:=by subst aC;intro i t o hi;simp only[tJ,tI,Prod.mk.injEq]at hi;obtain⟨f,U,rfl,rfl⟩:=hi;exact h i f (by simpa using U)
def K8{t:TypeId}{x:DataW H×List MemPlace}(av:P.underlying t=some (.struct cE))(h:DataW.trod enc P W aW fk held eZ t cs=some x) :
  cs.length=P.cellsOf t/\∀ (i:Nat) (f:Field),cE[i]?=some f->∃ eZ y,DataW.trod enc P W aW fk held eZ f.type ((cs.drop f.offset).take (P.cellsOf f.type))=some y:=by
 obtain⟨xs,m,_,_,ap,hc,hi⟩:=DataW.trod_struct av h;refine⟨ap,λi f aC=>?_⟩;have aS:=(lS.1 aC).1;have U:=hi i f aC;rw[eR (by omega)]at U;exact⟨_,_,U⟩
def ag6{x:DataW H×List MemPlace}(h:DataW.trod enc Tryz.prog W aW fk held eZ 59 cs=some x):∃ d:aM,cs=d.cells/\Cm (r3 W) d:=by obtain⟨cE,av,aC⟩:∃ cE,Tryz.prog.underlying 59=some (.struct cE)/\cE.toList.map (λf=>(f.type,f.offset))=[(5,0),(56,1),(9,5),(3,6),(3,7),(57,8)]:=Hu (by kernel_rfl);obtain⟨ap,hi⟩:=K8 av h;have hi:∀ (i t o:Nat),[(5,0),(56,1),(9,5),(3,6),(3,7),(57,8)][i]?=some (t,o)->∃ eZ y,DataW.trod enc Tryz.prog W aW fk held eZ t ((cs.drop o).take (Tryz.prog.cellsOf t))=some y:=K7 (P:=Tryz.prog) aC hi;rw[show Tryz.prog.cellsOf 59=9 by kernel_rfl]at ap;obtain⟨qf,eY,dS,s6,ux,K5,WN,asp,asq,rfl⟩:=ag1 ap;obtain⟨_,_,ao⟩:=hi 0 _ _ rfl;obtain⟨_,_,U⟩:=hi 1 _ _ rfl;obtain⟨_,_,aa⟩:=hi 2 _ _ rfl;obtain⟨_,_,af⟩:=hi 3 _ _ rfl;obtain⟨_,_,aP⟩:=hi 4 _ _ rfl;obtain⟨_,_,bq⟩:=hi 5 _ _ rfl;rw[show Tryz.prog.cellsOf 5=1 by kernel_rfl]at ao;rw[show Tryz.prog.cellsOf 56=4 by kernel_rfl]at U;rw[show Tryz.prog.cellsOf 9=1 by kernel_rfl]at aa;rw[show Tryz.prog.cellsOf 3=1 by kernel_rfl]at af aP;rw[show Tryz.prog.cellsOf 57=1 by kernel_rfl]at bq;obtain⟨k,cJ,ag7⟩:=Cn (show Tryz.prog.underlying 5=some (.int .u8) by kernel_rfl) ao;obtain⟨a,b,c,d,az,iV,jY,pc,kt⟩:=ag5 U;obtain⟨s,aF,-,ws⟩:=KY (show Tryz.prog.underlying 9=some .string by kernel_rfl) aa;obtain⟨lo,bo,wl⟩:=Cn (show Tryz.prog.underlying 3=some (.int .i64) by kernel_rfl) af;obtain⟨di,dw,ag8⟩:=Cn (show Tryz.prog.underlying 3=some (.int .i64) by kernel_rfl) aP;obtain⟨iW,kn,iz,ax,gd,iJ,cY,fc⟩:=agZ bq;simp at cJ az aF bo dw gd;obtain⟨Pp,Pq,ag9,aha⟩:=az;subst cJ Pp Pq ag9 aha aF bo dw gd;exact⟨⟨k,a,b,c,d,s,lo,di,iW,kn,iz,ax⟩,rfl,wf_u8 ag7,iV,jY,pc,kt,wf_i64 wl,wf_i64 ag8,iJ,fc,by unfold maxLen at ws;omega⟩
def ahb{x:DataW H×List MemPlace}(h:DataW.trod enc Tryz.prog W aW fk held eZ 28 cs=some x):∃ t:bN,cs=t.cells/\Af (r3 W) t:=by obtain⟨cE,av,aC⟩:∃ cE,Tryz.prog.underlying 28=some (.struct cE)/\cE.toList.map (λf=>(f.type,f.offset))=[(26,0),(3,1)]:=Hu (by kernel_rfl);obtain⟨ap,hi⟩:=K8 av h;have hi:∀ (i t o:Nat),[(26,0),(3,1)][i]?=some (t,o)->∃ eZ y,DataW.trod enc Tryz.prog W aW fk held eZ t ((cs.drop o).take (Tryz.prog.cellsOf t))=some y:=K7 (P:=Tryz.prog) aC hi;rw[show Tryz.prog.cellsOf 28=2 by kernel_rfl]at ap;obtain⟨qf,eY,rfl⟩:=ag3 ap;obtain⟨_,_,ao⟩:=hi 0 _ _ rfl;obtain⟨_,_,U⟩:=hi 1 _ _ rfl;rw[show Tryz.prog.cellsOf 26=1 by kernel_rfl]at ao;rw[show Tryz.prog.cellsOf 3=1 by kernel_rfl]at U;obtain⟨a,n,c,l,cJ,iJ,aw,bb,-,-⟩:=Pm (f:=aM.cells) (size:=9) (by decide) aM.de (Cm (r3 W)) (show Tryz.prog.underlying 26=some (.slice 59) by kernel_rfl) (by kernel_rfl) (λeZ cs x h=>ag6 h) ao;obtain⟨r,az,wr⟩:=Cn (show Tryz.prog.underlying 3=some (.int .i64) by kernel_rfl) U;simp at cJ az;subst cJ az;exact⟨⟨l,a,n,c,r⟩,rfl,iJ,bb,wf_i64 wr⟩
def ahc{x:DataW H×List MemPlace}(h:DataW.trod enc Tryz.prog W aW fk held eZ 38 cs=some x):∃ d:bI,cs=d.cells/\Ht (r3 W) d:=by obtain⟨cE,av,aC⟩:∃ cE,Tryz.prog.underlying 38=some (.struct cE)/\cE.toList.map (λf=>(f.type,f.offset))=[(9,0),(28,1)]:=Hu (by kernel_rfl);obtain⟨ap,hi⟩:=K8 av h;have hi:∀ (i t o:Nat),[(9,0),(28,1)][i]?=some (t,o)->∃ eZ y,DataW.trod enc Tryz.prog W aW fk held eZ t ((cs.drop o).take (Tryz.prog.cellsOf t))=some y:=K7 (P:=Tryz.prog) aC hi;rw[show Tryz.prog.cellsOf 38=3 by kernel_rfl]at ap;obtain⟨qf,eY,dS,rfl⟩:=ag2 ap;obtain⟨_,_,ao⟩:=hi 0 _ _ rfl;obtain⟨_,_,U⟩:=hi 1 _ _ rfl;rw[show Tryz.prog.cellsOf 9=1 by kernel_rfl]at ao;rw[show Tryz.prog.cellsOf 28=2 by kernel_rfl]at U;obtain⟨s,cJ,-,ws⟩:=KY (show Tryz.prog.underlying 9=some .string by kernel_rfl) ao;obtain⟨t,az,av⟩:=ahb U;simp[bN.cells]at cJ az;obtain⟨Pp,Pq⟩:=az;subst cJ Pp Pq;exact⟨⟨s,t⟩,rfl,by unfold maxLen at ws;exact ws,av⟩
def ahd{x:DataW H×List MemPlace}(h:DataW.trod enc Tryz.prog W aW fk held eZ 24 cs=some x):∃ g:dn,cs=[.slice g.a g.n g.c]/\xi (r3 W) g:=by obtain⟨cE,av,aC⟩:∃ cE,Tryz.prog.underlying 24=some (.struct cE)/\cE.toList.map (λf=>(f.type,f.offset))=[(22,0)]:=Hu (by kernel_rfl);obtain⟨ap,hi⟩:=K8 av h;have hi:∀ (i t o:Nat),[(22,0)][i]?=some (t,o)->∃ eZ y,DataW.trod enc Tryz.prog W aW fk held eZ t ((cs.drop o).take (Tryz.prog.cellsOf t))=some y:=K7 (P:=Tryz.prog) aC hi;rw[show Tryz.prog.cellsOf 24=1 by kernel_rfl]at ap;obtain⟨qf,rfl⟩:=ag4 ap;obtain⟨_,_,ao⟩:=hi 0 _ _ rfl;rw[show Tryz.prog.cellsOf 22=1 by kernel_rfl]at ao;obtain⟨a,n,c,l,cJ,iJ,aw,bb,-,-⟩:=Pm (f:=bI.cells) (size:=3) (by decide) bI.de (Ht (r3 W)) (show Tryz.prog.underlying 22=some (.slice 38) by kernel_rfl) (by kernel_rfl) (λeZ cs x h=>ahc h) ao;exact⟨⟨l,a,n,c⟩,cJ,iJ,bb⟩
def ahe{w:World}{r:Reach}(av:P.underlying t=some (.struct cE))(h:Value.okWide P w r aW t v):∃ cs,v=.agg cs:=by obtain⟨cs,U,-⟩:=Go.WideShapes.okWide_struct av h;exact⟨cs,U⟩
def ahf{d:DataW H}(h:DataW.Trod enc Tryz.prog W 0 (λ_=>true) true 24 v d p)(ak:Value.okWide Tryz.prog W .any aW 24 v):∃ g:dn,v=g.val/\xi (r3 W) g:=by obtain⟨cE,av,-⟩:=Hu (P:=Tryz.prog) (t:=24) (l:=[(22,0)]) (by kernel_rfl);obtain⟨cs,rfl⟩:=ahe av ak;obtain⟨eZ,aC⟩:=h;obtain⟨g,e,aA⟩:=ahd aC;refine⟨g,?_,aA⟩;have bA:cs.toList=[.slice g.a g.n g.c]:=e;cases cs;simp only at bA;subst bA;rfl
end
def WX{H:Type}{enc:TypeId×Value->H}{P:Program}(ap:laidOutB P=true){W lb:World}(ae:Ck W lb):∀ {ts:List TypeId} {vs:List Value} {ds:List (DataW H)} {ps:List MemPlace},(∀ t∈ts,P.readableRec t=true/\t<P.types.size) -> DataW.TrodAll enc P W 0 (λ_=>true) true ts vs ds ps->(∀ p∈ps,p.block<W.heap.size)->∀ fk:Nat->Bool,(∀ p∈ps,fk p.block=true)->DataW.TrodAll enc P lb 0 fk true ts vs ds ps
 |[],[],[],_,_,h,_,_,_=>h
 |t::ts,v::vs,d::ds,_,av,⟨p,q,U,aa,e⟩,aS,fk,ar=>by
  subst e;refine⟨p,q,?_,?_,rfl⟩
  ·refine Go.WideElems.Trod_stays ap (av t (.head _)).1 (av t (.head _)).2 U (λx ab=>?_) (λx ab=>ar x (dV.2 (.inl ab)));have b':=aS x (dV.2 (.inl ab));cases x with
   |cell b o=>exact World.cell?_of_block (w:=W) (ae.dg b b')| map b=>exact ae.dg b b'
  ·exact WX ap ae (λt h=>av t (.tail _ h)) aa (λx ab=>aS x (dV.2 (.inr ab))) fk (λx ab=>ar x (dV.2 (.inr ab)))
def ahg:mapsRowed Tryz.prog=true:=by kernel_rfl
def ahh:Tryz.prog.stopsHeard=true:=by kernel_rfl
def ahi:Tryz.prog.mayEnter=true:=by kernel_rfl
section
variable{H:Type}{enc:TypeId×Value->H}
def ahj{d:DataW H}(h:DataW.Trod enc Tryz.prog W 0 (λ_=>true) true 3 v d p)(ak:Value.okWide Tryz.prog W .any aW 3 v):∃ i:Int,v=.int .i64 i/\my i:=by
 have av:Tryz.prog.underlying 3=some (.int .i64):=by kernel_rfl
 obtain⟨n,rfl⟩:=Go.WideShapes.okWide_int av ak;obtain⟨eZ,aC⟩:=h;obtain⟨i,cJ,hw⟩:=Cn av aC;have az:[Value.int .i64 n]=[Value.int .i64 i]:=cJ;simp only[w7,Value.int.injEq,true_and,and_true]at az;subst az;exact⟨n,rfl,wf_i64 hw⟩
def ahk{d:DataW H}(h:DataW.Trod enc Tryz.prog W 0 (λ_=>true) true 9 v d p)(ak:Value.okWide Tryz.prog W .any aW 9 v):∃ s:ByteArray,v=.string s/\s.size<=9223372036854775807:=by
 have av:Tryz.prog.underlying 9=some .string:=by kernel_rfl
 obtain⟨n,rfl⟩:=Go.WideShapes.okWide_string av ak;obtain⟨eZ,aC⟩:=h;obtain⟨i,cJ,-,hw⟩:=KY av aC;have az:[Value.string n]=[Value.string i]:=cJ;simp only[w7,Value.string.injEq,and_true]at az;subst az;exact⟨n,rfl,by unfold maxLen at hw;exact hw⟩
end
structure qW where
 d:aM
 bm:List Nat
structure cr where
 n:Nat
 to:Nat
 aB:Nat
structure s' where
 cd:Nat
 pl:Nat
 hd:Nat
 to:Nat
 n:Nat
structure ahl where
 kn:Nat->Nat->cr
 op:List s'
 sV:Nat
structure cQ where
 ns:List qW
 s:ByteArray
 aW:Nat
def Pr:aM:=⟨0,0,0,0,0,⟨#[]⟩,0,0,none,0,0,[]⟩
def cQ.an(P:cQ)(k:Nat):qW:=P.ns.getD k ⟨Pr,[]⟩
def l6:cr:=⟨0,0,0⟩
def mB:cr:=⟨0,0,2⟩
def lf(d:aM)(b:Nat):Bool:=([d.eO,d.s1,d.s2,d.eU].getD (b/64) 0).toNat.testBit (b%64)
def preB(s t:ByteArray)(an:Nat):Bool:=decide (an+t.size<=s.size)&&decide (s.extract an (an+t.size)=t)
structure K9(P:cQ)(a:qW):Prop where
 k:0<=a.d.k/\a.d.k<10
 bm:∀ x∈a.bm,x<P.ns.length
 many:a.d.k=4\/a.d.k=5->0<a.bm.length
 one:a.d.k=3\/6<=a.d.k->a.bm.length=1
 oG:a.d.k=6->0<=a.d.lo/\a.d.lo<=99/\(a.d.hi=-1\/(a.d.lo<=a.d.hi/\a.d.hi<=99))
 len:a.bm.length<=1024
structure Ag(P:cQ):Prop where
 ns:∀ a∈P.ns,K9 P a
 aW:P.aW<=P.s.size
 size:P.s.size<=4096
structure Ah(P:cQ)(pl:Nat)(c:cr):Prop where
 aB:c.aB<=3
 m:c.aB=3->pl<=c.to/\c.to<=P.s.size/\c.n<=65537
 f:c.aB≠3->c.n=0/\c.to=0
def ef(c:cr):Prop:=c.aB=2\/c.aB=3
def cQ.ahm{P:cQ}(h:Ag P){k:Nat}(ae:k<P.ns.length):K9 P (P.an k):=by
 have:P.an k=P.ns[k]:=by simp[cQ.an,cS,ae]
 rw[this];exact h.ns _ (cC ae)
def ht(kn:Nat->Nat->cr)(aW:Nat):List Nat->Nat->List (Nat×Nat)
 |[],_=>[]| k::L,a=>bif Nat.beq (kn k (a-aW)).aB 3 then(bif Nat.beq (kn k (a-aW)).n 0 then ht kn aW L (kn k (a-aW)).to else(k,a)::ht kn aW L (kn k (a-aW)).to)else ht kn aW L a
def jr(kn:Nat->Nat->cr)(aW:Nat):List Nat->Nat->Nat
 |[],a=>a| k::L,a=>bif Nat.beq (kn k (a-aW)).aB 3 then jr kn aW L (kn k (a-aW)).to else jr kn aW L a
def nd(kn:Nat->Nat->cr)(aW:Nat):List Nat->Nat->Nat
 |[],_=>0| k::L,a=>bif Nat.beq (kn k (a-aW)).aB 3 then(kn k (a-aW)).n+nd kn aW L (kn k (a-aW)).to else nd kn aW L a
def allM(kn:Nat->Nat->cr)(aW:Nat):List Nat->Nat->Prop
 |[],_=>True| k::L,a=>(kn k (a-aW)).aB=3/\allM kn aW L (kn k (a-aW)).to
def WY(kn:Nat->Nat->cr)(aW:Nat):∀ (L iZ:List Nat) (a:Nat),jr kn aW (L++iZ) a=jr kn aW iZ (jr kn aW L a)
 |[],iZ,a=>rfl
 |k::L,iZ,a=>by
  simp only[rU,jr];cases Nat.beq (kn k (a-aW)).aB 3<;>exact WY kn aW L iZ _
def Ps(kn:Nat->Nat->cr)(aW:Nat):∀ (L iZ:List Nat) (a:Nat),ht kn aW (L++iZ) a=ht kn aW L a++ht kn aW iZ (jr kn aW L a)
 |[],iZ,a=>rfl
 |k::L,iZ,a=>by
  simp only[rU,ht,jr];cases Nat.beq (kn k (a-aW)).aB 3 with
  |true=>
   simp only[bh];rw[Ps kn aW L iZ];cases Nat.beq (kn k (a-aW)).n 0<;>rfl
  |false=>exact Ps kn aW L iZ _
def WZ(kn:Nat->Nat->cr)(aW:Nat):∀ (L iZ:List Nat) (a:Nat),allM kn aW L a->allM kn aW iZ (jr kn aW L a)->allM kn aW (L++iZ) a
 |[],iZ,a,_,h=>h| k::L,iZ,a,⟨U,aa⟩,h=>⟨U,WZ kn aW L iZ _ aa (by simpa[jr,U]using h)⟩
def kx(kn:Nat->Nat->cr)(aW:Nat):List Nat->Nat->List (Nat×Nat)
 |[],_=>[]| k::L,a=>bif Nat.beq (kn k (a-aW)).aB 3 then(bif Nat.beq (kn k (a-aW)).n 0 then []else [(k,a)])else kx kn aW L a
def ta(kn:Nat->Nat->cr)(aW:Nat):List Nat->Nat->Prop
 |[],_=>False| k::L,a=>(kn k (a-aW)).aB=3\/((kn k (a-aW)).aB=2/\ta kn aW L a)
inductive ky(kn:Nat->Nat->cr)(aW:Nat)(k:Nat)(hi:Int):Nat->Nat->List (Nat×Nat)->Prop
 |stop{t a:Nat}(h:(t:Int)=hi):ky kn aW k hi t a []| fail {t a:Nat} (h:(t:Int)≠hi) (aa:(kn k (a-aW)).aB=2):ky kn aW k hi t a []| more {t a:Nat} {l:List (Nat×Nat)} (ah:t<=1000000) (h:(t:Int)≠hi) (aa:(kn k (a-aW)).aB=3) (r:ky kn aW k hi (t+1) (kn k (a-aW)).to l):ky kn aW k hi t a ((bif Nat.beq (kn k (a-aW)).n 0 then []else [(k,a)])++l)
def iE(P:cQ)(kn:Nat->Nat->cr)(k a:Nat)(l:List (Nat×Nat)):Prop:=
 if(P.an k).d.k=6 then ky kn P.aW ((P.an k).bm.getD 0 0) (P.an k).d.hi 0 a l
 else if(P.an k).d.k=5 then ta kn P.aW (P.an k).bm a/\l=kx kn P.aW (P.an k).bm a else allM kn P.aW (P.an k).bm a/\l=ht kn P.aW (P.an k).bm a
structure dF where
 name:ByteArray
 lo:Nat
 hi:Nat
def nf(P:cQ)(kn:Nat->Nat->cr)(k a:Nat):List dF:=bif decide ((P.an k).d.k=9)then [⟨(P.an k).d.t,a,(kn k (a-P.aW)).to⟩]else []
inductive hE(P:cQ)(kn:Nat->Nat->cr):Nat->List (Nat×Nat)->List dF->Prop
 |nil:hE P kn 0 [] []| zero {n k a bd l} (af:(kn k (a-P.aW)).aB=3) (h:(kn k (a-P.aW)).n=0) (r:hE P kn n bd l):hE P kn (n+1) ((k,a)::bd) l| node {n k a parts bd l} (af:(kn k (a-P.aW)).aB=3) (h:(kn k (a-P.aW)).n≠0) (aD:iE P kn k a parts) (r:hE P kn n (parts++bd) l):hE P kn (n+1) ((k,a)::bd) (nf P kn k a++l)
def hE.app{P:cQ}{kn:Nat->Nat->cr}{n m:Nat}{a b:List (Nat×Nat)}{l l':List dF}(h:hE P kn n a l)(be:hE P kn m b l'):hE P kn (n+m) (a++b) (l++l'):=by
 induction h with
 |nil=>rw[dz];exact be| @zero n k a bd l af h r a7=>rw[Nat.add_right_comm];exact .zero af h a7| @node n k a parts bd l af h aD r a7=>rw[Nat.add_right_comm,fA];rw[fA]at a7;exact .node af h aD a7
def mC(l:List dF)(n:Nat):Prop:=(n<=65536->l.length=n)/\(65537<=n->65537<=l.length)
def mC.app{l l':List dF}{n m:Nat}(h:mC l n)(be:mC l' m):mC (l++l') (n+m):=by unfold mC at *;rw[cP];omega
def mC.cut{l:List dF}{n:Nat}(h:mC l n):mC l (min n 65537):=by unfold mC at *;omega
def Ai(kn fe:Nat->Nat->cr):Prop:=∀ k p,ef (kn k p)->fe k p=kn k p
def Pt{kn fe:Nat->Nat->cr}(h:Ai kn fe)(aW:Nat):∀ (L:List Nat) (a:Nat),allM kn aW L a->ht fe aW L a=ht kn aW L a/\jr fe aW L a=jr kn aW L a/\nd fe aW L a=nd kn aW L a/\allM fe aW L a
 |[],a,_=>⟨rfl,rfl,rfl,trivial⟩
 |k::L,a,⟨U,aa⟩=>by
  have e:=h k (a-aW) (.inr U);obtain⟨i1,i2,i3,i4⟩:=Pt h aW L _ aa;have ah:Nat.beq (kn k (a-aW)).aB 3=true:=by rw[U];rfl
  simp only[ht,jr,nd,allM,e,i1,i2,i3,ah,bh];exact⟨trivial,trivial,trivial,U,i4⟩
def W0{kn fe:Nat->Nat->cr}(h:Ai kn fe)(aW:Nat):∀ (L:List Nat) (a:Nat),ta kn aW L a->kx fe aW L a=kx kn aW L a/\ta fe aW L a
 |[],a,U=>U.elim| k::L,a,.inl U=>by have e:=h k (a-aW) (.inr U);simp only[kx,ta,e,U];exact⟨rfl,.inl trivial⟩
 |k::L,a,.inr ⟨U,aa⟩=>by have e:=h k (a-aW) (.inl U);obtain⟨i1,i2⟩:=W0 h aW L a aa;simp only[kx,ta,e,U,i1];exact⟨trivial,.inr ⟨trivial,i2⟩⟩
def ky.le{kn fe:Nat->Nat->cr}(h:Ai kn fe){k:Nat}{a:Nat}{l:List (Nat×Nat)}(hw:ky kn aW k hi t a l):ky fe aW k hi t a l:=by
 induction hw with
 |stop U=>exact .stop U| fail U aa=>exact .fail U (by rw[h _ _ (.inl aa)];exact aa)| @more t a l ah U aa r a7=>have e:=h k (a-aW) (.inr aa);have:=ky.more (kn:=fe) (aW:=aW) (k:=k) (hi:=hi) (t:=t) (a:=a) (l:=l) ah U (by rw[e];exact aa) (by rw[e];exact a7);rwa [e]at this
def iE.le{P:cQ}{kn fe:Nat->Nat->cr}(h:Ai kn fe){k a:Nat}{l:List (Nat×Nat)}(aD:iE P kn k a l):iE P fe k a l:=by
 unfold iE at aD |-;by_cases bj:(P.an k).d.k=6
 ·rw[cG bj]at aD |-;exact aD.le h
 ·rw[ca bj]at aD |-;by_cases bq:(P.an k).d.k=5
  ·rw[cG bq]at aD |-;obtain⟨i1,i2⟩:=W0 h P.aW _ _ aD.1;exact⟨i2,by rw[i1];exact aD.2⟩
  ·rw[ca bq]at aD |-;obtain⟨i1,i2,i3,i4⟩:=Pt h P.aW _ _ aD.1;exact⟨i4,by rw[i1];exact aD.2⟩
def hE.le{P:cQ}{kn fe:Nat->Nat->cr}(h:Ai kn fe){n:Nat}{l:List dF}(aA:hE P kn n L l):hE P fe n L l:=by
 induction aA with
 |nil=>exact .nil| @zero n k a bd l af ao r a7=>have e:=h k (a-P.aW) (.inr af);exact .zero (by rw[e];exact af) (by rw[e];exact ao) a7
 | @node n k a parts bd l af ao aD r a7=>
  have e:=h k (a-P.aW) (.inr af);have aN:nf P kn k a=nf P fe k a:=by unfold nf;rw[e]
  rw[aN];exact .node (by rw[e];exact af) (by rw[e];exact ao) (aD.le h) a7
inductive nX:Nat->Nat->List dF->Prop
 |nil{a b}(h:a<=b):nX a b []| app {a b c l l'} (h:nX a b l) (be:nX b c l'):nX a c (l++l')| cap {a b l nm} (h:nX a b l):nX a b (⟨nm,a,b⟩::l)
def nX.le{a b:Nat}{l:List dF}(h:nX a b l):a<=b:=by
 induction h with
 |nil h=>exact h| app _ _ U aa=>exact jN U aa| cap _ h=>exact h
structure Pu(P:cQ)(kn:Nat->Nat->cr)(f:s'):Prop where
 w:(kn f.cd (f.pl-P.aW)).aB=1
 many:(P.an f.cd).d.k=4\/(P.an f.cd).d.k=6->∀ L,L=(if(P.an f.cd).d.k=4 then(P.an f.cd).bm.take f.hd else List.replicate f.hd ((P.an f.cd).bm.getD 0 0)) -> allM kn P.aW L f.pl/\f.to=jr kn P.aW L f.pl/\f.n=min (nd kn P.aW L f.pl) 65537
 qz:(P.an f.cd).d.k=5->∀ i,i<f.hd->(kn ((P.an f.cd).bm.getD i 0) (f.pl-P.aW)).aB=2
def Aj(P:cQ)(kn:Nat->Nat->cr):Prop:=∀ k p,(kn k p).aB=3->∃ n l,hE P kn n [(k,P.aW+p)] l/\mC l (kn k p).n/\nX (P.aW+p) (kn k p).to l
def Pu.le{P:cQ}{kn fe:Nat->Nat->cr}(h:Ai kn fe){f:s'}(ar:Pu P kn f)(hw:(fe f.cd (f.pl-P.aW)).aB=1):Pu P fe f:=by
 refine⟨hw,λae L cT=>?_,λae i hi=>?_⟩
 ·obtain⟨U,aa,af⟩:=ar.many ae L cT;obtain⟨i1,i2,i3,i4⟩:=Pt h P.aW _ _ U;exact⟨i4,by rw[i2];exact aa,by rw[i3];exact af⟩
 ·have:=ar.qz ae i hi;rw[h _ _ (.inl this)];exact this
def W1{P:cQ}{kn:Nat->Nat->cr}(ae:∀ k p,Ah P (P.aW+p) (kn k p))(aA:Aj P kn):∀ (L:List Nat) (a:Nat),P.aW<=a->allM kn P.aW L a->∃ n l,hE P kn n (ht kn P.aW L a) l/\mC l (nd kn P.aW L a)/\nX a (jr kn P.aW L a) l
 |[],a,_,_=>⟨0,[],.nil,⟨λ_=>rfl,λh=>by simp[nd]at h⟩,.nil (bY _)⟩
 |k::L,a,aE,⟨U,aa⟩=>by
  have aN:=ae k (a-P.aW);have mD:=(aN.m U).1;obtain⟨n,l,i1,i2,i3⟩:=W1 ae aA L _ (by omega) aa;obtain⟨m,l',js,hO,jG⟩:=aA k (a-P.aW) U;rw[Ac aE]at js jG;simp only[ht,nd,jr,U];rw[show Nat.beq 3 3=true from rfl,bh,bh,bh];cases ao:Nat.beq (kn k (a-P.aW)).n 0 with
  |true=>rw[bh,cK ao,dz];exact⟨n,l,i1,i2,.app (.nil (by rw[Ac aE]at mD;exact mD)) i3⟩| false=>rw[bf];exact⟨m+n,l'++l,js.app i1,hO.app i2,.app jG i3⟩
def W2{kn:Nat->Nat->cr}{aW k:Nat}{hi:Int}:∀ (m t a:Nat),t+m<=1000001->allM kn aW (List.replicate m k) a->(∀ i,i<m->((t+i:Nat):Int)≠hi) -> (((t+m:Nat):Int)=hi\/(((t+m:Nat):Int)≠hi/\(kn k (jr kn aW (List.replicate m k) a-aW)).aB=2))->ky kn aW k hi t a (ht kn aW (List.replicate m k) a)
 |0,t,a,_,_,_,h=>by
  rcases h with h | ⟨U,aa⟩;·exact .stop h
  ·exact .fail U aa
 |m+1,t,a,ah,ej,bH,h=>by
  rw[vR]at ej h |-;obtain⟨U,aa⟩:=ej;have av:jr kn aW (k::List.replicate m k) a=jr kn aW (List.replicate m k) (kn k (a-aW)).to:=by simp[jr,U]
  rw[av]at h;have a7:=W2 m (t+1) _ (by omega) aa (λi hi=>by have:=bH (i+1) (by omega);rwa [show t+1+i=t+(i+1) by omega]) (by rwa [show t+1+m=t+(m+1) by omega]);have:=ky.more (by omega) (by have:=bH 0 (by omega);simpa using this) U a7;have e:ht kn aW (k::List.replicate m k) a=(bif Nat.beq (kn k (a-aW)).n 0 then []else [(k,a)])++ht kn aW (List.replicate m k) (kn k (a-aW)).to:=by
   simp only[ht,U];rw[show Nat.beq 3 3=true from rfl,bh];cases Nat.beq (kn k (a-aW)).n 0<;>rfl
  rw[e];exact this
def W3{kn:Nat->Nat->cr}{aW:Nat}:∀ (L:List Nat) (a t:Nat) (av:t<L.length),(∀ i,i<t->(kn (L.getD i 0) (a-aW)).aB=2)->(kn (L.getD t 0) (a-aW)).aB=3 -> ta kn aW L a/\kx kn aW L a=bif Nat.beq (kn (L.getD t 0) (a-aW)).n 0 then []else [(L.getD t 0,a)]
 |k::L,a,0,_,_,af=>by simp only[Pa]at af;refine⟨.inl af,?_⟩;simp only[kx,Pa,af];rfl
 |k::L,a,t+1,av,aa,af=>by have ae:=aa 0 (by omega);simp only[Pa]at ae;simp only[List.getD_cons_succ]at af |-;obtain⟨i1,i2⟩:=W3 L a t (by simpa using av) (λi hi=>by have:=aa (i+1) (by omega);simpa using this) af;refine⟨.inr ⟨ae,i1⟩,?_⟩;simp only[kx,ae];exact i2
def W4(nm:ByteArray):∀ (ds:List bI) (i:Nat),df nm ds i=bif decide (df nm ds 0<0)then -1 else df nm ds 0+i
 |[],i=>rfl
 |d::ds,i=>by
  unfold df;cases h:decide (d.name=nm)with
  |true=>
   have:decide ((((0:Nat):Int))<0)=false:=by decide
   simp[this]
  |false=>
   rw[bf,bf,W4 nm ds (i+1),W4 nm ds (0+1)];have ai:df nm ds 0<0\/0<=df nm ds 0:=by omega
   rcases ai with ai | ai;·rw[fr ai];rfl
   ·have e:decide (df nm ds 0<0)=false:=c0 (by omega);rw[e,bf,bf];have aF:decide (df nm ds 0+((0+1:Nat):Int)<0)=false:=c0 (by omega);rw[aF,bf];omega
def W5(nm:ByteArray)(ar cO:List bI):df nm (ar++cO) 0=bif decide (df nm ar 0<0)then df nm cO ar.length else df nm ar 0:=by
 have key:∀ (ar:List bI) (i:Nat),df nm (ar++cO) i=bif decide (df nm ar i<0)then df nm cO (i+ar.length)else df nm ar i:=by
  intro ar
  induction ar with
  |nil=>intro i;simp[df]
  |cons d ar a7=>
   intro i;rw[rU,df,df];cases decide (d.name=nm)with
   |true=>have:decide ((i:Int)<0)=false:=c0 (by omega);rw[bh,bh,this,bf]| false=>rw[bf,bf,a7 (i+1),eQ];rw[show i+1+ar.length=i+(ar.length+1)from by omega]
 have:=key ar 0;rwa [dz]at this
structure Ev(ar:List bI)(aZ:List (ByteArray×Int)):Prop where
 look:∀ nm,(eB nm aZ).isSome=decide (0<=df nm ar 0)
def W6(nm:ByteArray)(p:ByteArray×Int):∀ aZ:List (ByteArray×Int),(eB nm (aZ++[p])).isSome=((eB nm aZ).isSome||decide (nm=p.1))
 |[]=>by
  show(bif decide (nm=p.1)then some p.2 else none:Option Int).isSome=_;cases decide (nm=p.1)<;>rfl
 |q::aZ=>by
  rw[rU,eB,eB];cases decide (nm=q.1)with
  |true=>rfl| false=>rw[bf,bf,W6 nm p aZ]
def Ev.snoc{ar:List bI}{aZ:List (ByteArray×Int)}(h:Ev ar aZ)(d:bI)(v:Int):Ev (ar++[d]) (aZ++[(d.name,v)]):=by
 refine⟨λnm=>?_⟩;rw[W6,h.look,W5];by_cases ai:df nm ar 0<0
 ·rw[fr ai,bh,c0 (by omega:¬ 0<=df nm ar 0),wO];unfold df;have:decide (d.name=nm)=decide (nm=d.name):=decide_eq_decide.2 ⟨Eq.symm,Eq.symm⟩;rw[this];cases decide (nm=d.name)with
  |true=>simp| false=>rw[bf];rfl
 ·rw[c0 ai,bf,fr (by omega:0<=df nm ar 0),KZ]
def r5(ds:List bI)(i:Nat):Bool:=match ds[i]? with
 |some d=>decide (df d.name ds 0=i)| none=>true
def ahn(d:bI)(cO:List bI)(i:Nat):df d.name (d::cO) i=i:=by rw[df,fr rfl];rfl
def aho(cO:List bI):∀ (ar:List bI) (aZ:List (ByteArray×Int)),Ev ar aZ->(∀ i,i<ar.length->r5 (ar++cO) i=true) ->
  match qU aZ ar.length cO with
  |none=>∃ i,i<(ar++cO).length/\r5 (ar++cO) i=false/\∀ k,k<i->r5 (ar++cO) k=true| some r=>Ev (ar++cO) r/\∀ i,i<(ar++cO).length->r5 (ar++cO) i=true:=by
 induction cO with
 |nil=>intro ar aZ h aC;rw[dX]at *;exact⟨h,aC⟩
 |cons d cO a7=>
  intro ar aZ h aC;have da:(ar++d::cO)[ar.length]?=some d:=by simp
  have pR:r5 (ar++d::cO) ar.length=!(eB d.name aZ).isSome:=by
   unfold r5;rw[da,h.look];simp only;rw[W5];by_cases ai:df d.name ar 0<0;·rw[fr ai,bh,ahn];simp;omega
   ·rw[c0 ai,bf];have aS:df d.name ar 0<ar.length:=by
     have:∀ (ar:List bI) (i:Nat),0<=df d.name ar i->df d.name ar i<i+ar.length:=by
      intro ar
      induction ar with
      |nil=>intro i h;simp[df]at h
      |cons e ar ahp=>
       intro i h;unfold df at h |-;cases aN:decide (e.name=d.name)with
       |true=>simp;omega| false=>rw[aN,bf]at h;rw[bf];have:=ahp (i+1) h;simp;omega
     have:=this ar 0 (by omega);omega
    have az:decide (df d.name ar 0=(ar.length:Int))=false:=c0 (by omega);have aF:decide (0<=df d.name ar 0)=true:=fr (by omega);rw[az,aF];rfl
  rw[qU];cases ap:(eB d.name aZ).isSome with
  |true=>rw[ap]at pR;exact⟨ar.length,by simp,pR,aC⟩
  |false=>
   rw[ap]at pR;have:=a7 (ar++[d]) (aZ++[(d.name,(ar.length:Int))]) (h.snoc d _) (λi hi=>by
    rw[fA];simp at hi;rcases Nat.lt_or_eq_of_le (Nat.lt_succ_iff.1 (by omega:i<ar.length+1))with U | U;·exact aC i U
    ·rw[U];exact pR)
   rw[cP,fA]at this;exact this
def ahq:Ev [] []:=⟨λnm=>by simp[eB,df]⟩
def Ak(ds:List bI)(n:aM):Bool:=!decide (n.k=3)||decide (0<=df n.t ds 0)
def W7(p:aM->Bool):∀ (ds:List bI) (i:Nat),((vP i ds).all λx=>p x.2)=ds.all λd=>d.t.ns.all p
 |[],i=>rfl| d::ds,i=>by rw[vP,GW,List.all_cons,W7 p ds (i+1),List.all_map];rfl
def K'(a1:List Int)(g:dn):Int:=
 bif decide ((g.n:Int)=0)then 4 else bif !s8 g.ds then 4 else bif qT a1 g then 40 else
 bif !(List.range g.ds.length).all (r5 g.ds)then 6 else bif g.ds.all λd=>d.t.ns.all (Ak g.ds)then 0 else 41
def W8(a1:List Int)(g:dn):K' a1 g=gk a1 g:=by
 unfold K' gk;have h:=aho g.ds [] [] ahq (λi hi=>by simp at hi);simp only[ih,kN]at h;cases ag:qU [] 0 g.ds with
 |none=>
  rw[ag]at h;obtain⟨i,U,aa,_⟩:=h;have:(List.range g.ds.length).all (r5 g.ds)=false:=by rw[yP];intro ej;rw[gh]at ej;have:=ej i (kI.2 U);rw[aa]at this;cases this
  rw[this];rfl
 |some aZ=>
  rw[ag]at h;obtain⟨U,aa⟩:=h;have af:(List.range g.ds.length).all (r5 g.ds)=true:=by rw[gh];intro i hi;exact aa i (kI.1 hi)
  rw[af];have aP:(g.ds.all λd=>d.t.ns.all (Ak g.ds))=yN aZ g.ds:=by unfold yN;rw[W7];congr 1;funext d;congr 1;funext n;unfold z9 Ak;rw[U.look]
  rw[aP];rfl
def Pv:gY 0:=⟨by decide,by decide⟩
def i0:my 0:=⟨by decide,by decide⟩
def ahr(k:Int)(s:ByteArray):aM:=⟨k,0,0,0,0,s,0,0,none,0,0,[]⟩
def La(d:aM):Bool:=decide (d.t=⟨#[]⟩)&&(decide (d.lo=0)&&decide (d.hi=0))
def ahs(d:aM)(n:Int):Bool:=
 bif decide (d.k=0)then La d&&decide (n=0)else
 bif decide (d.k=1)then La d&&decide (n=0)else
 bif decide (d.k=2)then decide (d.lo=0)&&(decide (d.hi=0)&&(decide (n=0)&&(decide ((1:Int)<=d.t.size)&&decide ((d.t.size:Int)<=255))))else
 bif decide (d.k=3)then decide (d.lo=0)&&(decide (d.hi=0)&&(decide (n=0)&&m3 d.t))else
 bif decide (d.k=4)||decide (d.k=5)then La d&&decide (2<=n)else
 bif decide (d.k=6)then decide (d.t=⟨#[]⟩)&&(decide (n=1)&&(decide (0<=d.lo)&&(decide (d.lo<=99)&&(decide (d.hi=-1)||(decide (d.lo<=d.hi)&&decide (d.hi<=99))))))else
 bif decide (d.k=7)||decide (d.k=8)then La d&&decide (n=1)else
 bif decide (d.k=9)then decide (d.lo=0)&&(decide (d.hi=0)&&(decide (n=1)&&m3 d.t))else false
def Pw{bF:Int}:∀ {s:List Bool} {i j:Nat},j<s.length->(s.getD j false == decide (((i+j:Nat):Int)=bF))=true->rR bF i s=false
 |b::s,i,0,_,h=>by unfold rR;rw[show(b == decide ((i:Int)=bF))=true by simpa using h];rfl
 |b::s,i,j+1,aj,h=>by
  unfold rR;cases b == decide ((i:Int)=bF)with
  |true=>rfl| false=>simp only[bf];refine Pw (j:=j) (by simpa using aj) ?_;rw[show i+1+j=i+(j+1) by omega];simpa using h
def W9{bF:Int}:∀ {s:List Bool} {i:Nat},(∀ j,j<s.length->(s.getD j false == decide (((i+j:Nat):Int)=bF))=false)->rR bF i s=true
 |[],i,h=>rfl| b::s,i,h=>by unfold rR;have ao:=h 0 (by simp);rw[show(b == decide ((i:Int)=bF))=false by simpa using ao];simp only[bf];refine W9 λj aj=>?_;have:=h (j+1) (by simpa using aj);rw[show i+1+j=i+(j+1) by omega];simpa using this
def bs.cd{X:c7}{o:Oper}{F:Fr}{C:d'}{K:gp}(h:bs X o F C I M (λF C I M=>(M.map (·.num)).Nodup->(∀ x∈M,I x.num=none)->K F C I M)):bs X o F C I M K:=
 ⟨λa w Q a4=>tK (λa' w'=>λ⟨eD,C',I',M',⟨β,ai⟩,ae⟩=>⟨eD,C',I',M',⟨β,ai⟩,ae ai.holds.cd ai.holds.d⟩) (h.1 a w Q a4)⟩
def W'{il:List Value}(dp:os.ok size xs){g c:Nat}{aQ:List Value}(aH:il.length=size)(U:aQ.length=c*size)(aa:os.n+1<=c)(af:c<=maxLen)(aP:aQ.take ((os.n+1)*size)=xs++il) :
  a5.ok ⟨some g,os.n+1,c,aQ⟩ size (xs++il):=by
 have ap:=dp.len;refine⟨?_,(λh=>by cases h),λbW oE=>⟨U,aa,af,aP⟩⟩;rw[cP,ap,aH];simp only;rw[ji,oy]
abbrev Lb:=bN×Int×ByteArray
def Lb.cd(x:Lb):aM:=ahr x.2.1 x.2.2
structure Lb.ok(I:aR)(x:Lb):Prop where
 t:x.1.ok I
 ns:x.1.ns=[x.cd]
 bF:x.1.bF=0
 fits:ahs x.cd 0=true
def l7(ns:List aM):Int->Nat:=lB 0 (λd g=>1+gZ g d.ax) ns
def Ew{t:bN}(ai:right t=true){j:Nat}(aj:j<t.ns.length):l7 t.ns j=1+gZ (l7 t.ns) t.ns[j].ax:=
 yF (λd g dH h=>by rw[We h]) ai aj
def aht{t:bN}(ai:right t=true):l7 t.ns t.bF<=t.ns.length:=by
 have:=OM ai (g:=l7 t.ns) (c:=λ_=>1) λj aj=>by rw[Ew ai aj];exact bY _
 rwa [KI,oy]at this
def Xa{i:Nat}:∀ {ks:List Int} {s ct:List Bool},k7 i ks s=some ct->∀ j,ct.getD j false=true->s.getD j false=true\/((j:Int)∈ks/\j<i)
 |[],s,ct,h,j,aj=>by simp only[k7,kd]at h;subst h;exact .inl aj
 |k::ks,s,ct,h,j,aj=>by
  unfold k7 at h;cases ah:decide (k<0)||(decide ((i:Int)<=k)||s.getD k.toNat false)with
  |true=>rw[ah]at h;cases h
  |false=>
   rw[ah]at h;simp only[bf]at h;simp only[o6,ow]at ah;rcases Xa h j aj with U | U
   ·by_cases e:k.toNat=j
    ·right
     refine⟨?_,by omega⟩;have:(j:Int)=k:=by omega
     rw[this];exact .head _
    ·left
     simp only[cS,o8]at U |-;rwa [ca e]at U
   ·exact .inr ⟨.tail _ U.1,U.2⟩
def Xb:∀ {ds:List aM} {i:Nat} {s ct:List Bool},jB i ds s=some ct->∀ j,ct.getD j false=true->s.getD j false=true\/∃ q,∃ h:q<ds.length,(j:Int)∈ds[q].ax/\j<i+q
 |[],i,s,ct,h,j,aj=>by simp only[jB,kd]at h;subst h;exact .inl aj
 |d::ds,i,s,ct,h,j,aj=>by
  unfold jB at h;cases aC:fits d d.ax.length with
  |false=>rw[aC]at h;cases h
  |true=>
   rw[aC]at h;simp only[bh]at h;split at h
   ·rename_i s1 gj;rcases Xb h j aj with U | ⟨q,ay,U,aa⟩
    ·rcases Xa gj j U with af | ⟨af,aP⟩
     ·exact .inl af
     ·exact .inr ⟨0,by simp,af,by omega⟩
    ·exact .inr ⟨q+1,by simpa using ay,by simpa using U,by omega⟩
   ·cases h
def Xc{t:bN}(ai:right t=true){j:Nat}(aj:j<t.ns.length)(bH:(j:Int)≠t.bF):∃ p,∃ h:p<t.ns.length,(j:Int)∈t.ns[p].ax/\j<p:=by
 unfold right at ai;simp only[cp]at ai;obtain⟨_,_,ai⟩:=ai;split at ai
 ·rename_i s ar;have jZ:=(OL (g:=λ_=>0) (c:=λ_=>0) ar (by simp) (λj aj=>by simp)).1;have hm:s.getD j false=true:=by
   cases ah:s.getD j false with
   |true=>rfl| false=>have:=Pw (bF:=t.bF) (s:=s) (i:=0) (j:=j) (by rw[jZ];simpa using aj) (by rw[ah,dz];simp[bH]);rw[this]at ai;cases ai
  rcases Xb ar j hm with U | ⟨q,ay,U,aa⟩;·simp[cS,aj]at U
  ·exact⟨q,ay,U,by omega⟩
 ·cases ai
def Xd{g:Int->Nat}:∀ {ks:List Int} {k:Int},k∈ks->g k<=gZ g ks
 |a::ks,k,h=>by
  simp only[gZ,dv,pg];rcases eL.1 h with rfl | h;·omega
  ·have:=Xd (g:=g) h;simp only[gZ]at this;omega
def Ex{t:bN}(ai:right t=true):∀ (m j:Nat),j<t.ns.length->t.ns.length-j<=m->l7 t.ns j<=t.ns.length
 |0,j,aj,hm=>by omega
 |m+1,j,aj,hm=>by
  by_cases e:(j:Int)=t.bF;·rw[e];exact aht ai
  ·obtain⟨p,aD,ae,aS⟩:=Xc ai aj e;have U:=Ex ai m p aD (by omega);rw[Ew ai aD]at U;have:=Xd (g:=l7 t.ns) ae;omega
def Hv(g:Int->Nat)(a b:List Int):gZ g (a++b)=gZ g a+gZ g b:=by simp[gZ]
def Lc{t:bN}(ai:right t=true):∀ {l:List Int},valid t.ns.length l->l.length<=gZ (l7 t.ns) l
 |[],_=>by simp
 |a::l,ak=>by have U:=Lc ai (l:=l) λk ae=>ak k (.tail _ ae);have aa:=ak a (.head _);obtain⟨a,rfl⟩:=g' aa.1;have af:=Ew ai (j:=a) (by omega);simp only[gZ,dv,pg,eQ]at U |-;have aP:l7 t.ns (Int.ofNat a)=l7 t.ns a:=rfl;omega
def yU(ns:List aM):Nat->List Int->List Int->List Int
 |0,_,b=>b
 |f+1,todo,b=>match todo.getLast? with
  |none=>b| some n=>yU ns f (todo.dropLast++(nodeAt ns n.toNat).ax) (b++[n])
def Co(ns:List aM)(node:Int):List Int:=yU ns (ns.length+1) [node] []
def Xe(ns:List aM)(f:Nat)(b:List Int):yU ns f [] b=b:=by cases f<;>rfl
def Xf(ns:List aM)(f:Nat)(todo:List Int)(n:Int)(b:List Int):yU ns (f+1) (todo++[n]) b=yU ns f (todo++(nodeAt ns n.toNat).ax) (b++[n]):=by rw[yU];simp only[List.getLast?_concat,List.dropLast_concat]
def aM.dI(d:aM):aM:=⟨d.k,d.eO,d.s1,d.s2,d.eU,d.t,d.lo,d.hi,none,0,0,d.ax⟩
def aM.hf(d:aM)(l:List Int):aM:=⟨d.k,d.eO,d.s1,d.s2,d.eU,d.t,d.lo,d.hi,none,0,0,l⟩
def Ld(ns:List aM)(aB:List Int×List aM)(b:Int):List Int×List aM:=
 (aB.1.set b.toNat aB.2.length,aB.2++[(nodeAt ns b.toNat).hf ((nodeAt ns b.toNat).ax.map λk=>(aB.1.set b.toNat aB.2.length).getD k.toNat 0)])
def xj(ns:List aM)(node:Int):List aM:=((Co ns node).reverse.foldl (Ld ns) (List.replicate ns.length 0,[])).2
def a5.pop{x:Value}(h:os.ok 1 (xs++[x])):a5.ok ⟨os.a,os.n-1,os.c,os.aQ⟩ 1 xs:=by
 have ap:=h.len;simp only[cP,eQ,ih,iU]at ap;refine⟨by simp only;omega,λaE=>?_,λg aA=>?_⟩
 ·have:=h.nil aE;simp only;omega
 ·obtain⟨U,aa,af,aP⟩:=h.cap g aA;refine⟨U,by simp only;omega,af,?_⟩;simp only;have e:os.n*1=xs.length+1:=by omega
  rw[e]at aP;have:os.aQ.take xs.length=(os.aQ.take (xs.length+1)).take xs.length:=by rw[vv];congr 1;omega
  rw[show(os.n-1)*1=xs.length by omega,this,aP,yu]
structure ahu(t:bN)(node:Int)(x:a5×List Int×a5×List Int×Nat):Prop where
 todo:x.1.ok 1 (x.2.1.map (.int .i64 ·))
 back:x.2.2.1.ok 1 (x.2.2.2.1.map (.int .i64 ·))
 asr:valid t.ns.length x.2.1
 ass:valid t.ns.length x.2.2.2.1
 sum:gZ (l7 t.ns) x.2.1+x.2.2.2.1.length=l7 t.ns node
 eZ:gZ (l7 t.ns) x.2.1+1<=x.2.2.2.2
 eq:Co t.ns node=yU t.ns x.2.2.2.2 x.2.1 x.2.2.2.1
structure ahv(I:aR)(t:bN)(cH:List Int)(x:Nat×List Int×a5×List aM×aR):Prop where
 j:x.1<=cH.length
 len:x.2.1.length=t.ns.length
 out:x.2.2.1.ok 9 (x.2.2.2.1.flatMap aM.cells)
 on:x.2.2.2.1.length=x.1
 eq:(cH.take x.1).foldl (Ld t.ns) (List.replicate t.ns.length 0,[])=(x.2.1,x.2.2.2.1.map aM.dI)
 ok:∀ d∈x.2.2.2.1,d.ok x.2.2.2.2
 le:∀ b o,I b=some o->x.2.2.2.2 b=some o
 mE:∀ c∈x.2.1,0<=c/\c<=cH.length
 kb:∀ d∈x.2.2.2.1,∀ k∈d.ax,0<=k/\k<=cH.length
structure aY where
 z:Bool
 s:Bool
 f:Bool
 deriving DecidableEq
def aY.cells(x:aY):List Value:=[.bool x.z,.bool x.s,.bool x.f]
def aY.val(x:aY):Value:=.agg #[.bool x.z,.bool x.s,.bool x.f]
def aY.de(x:aY):x.cells.length=3:=rfl
def aY.lg(x:aY):Bool:=x.z||x.s
def ahw(x y:aY)(p q:Operand)(w:World):(do eqGuard .neq 293 p q x.val y.val;binOp .neq 293 x.val y.val:Sem Value).run Tryz.prog w=.ok (.bool (!decide (x=y))) w:=by
 obtain⟨a,b,c⟩:=x;obtain⟨d,e,f⟩:=y;cases a<;>cases b<;>cases c<;>cases d<;>cases e<;>cases f<;>kernel_rfl
def fM.Xg{p q:aY}{V:Value->Prop}(h:V (.bool (!decide (p=q)))):fM Tryz.prog .neq 293 x y (.val (.agg #[.bool p.z,.bool p.s,.bool p.f])) (.val (.agg #[.bool q.z,.bool q.s,.bool q.f])) V other:=
 .mk _ _ _ rfl rfl (λw=>ahw p q x y w) h
def Px{s:Bool}{x:aY}(U:z=x.z)(aa:s=x.s)(af:f=x.f):Value.agg #[.bool z,.bool s,.bool f]=x.val:=by subst U aa af;rfl
def Xh{s:Bool}{x:aY}(U:z=x.z)(aa:s=x.s)(af:f=x.f):[Value.bool z,Value.bool s,Value.bool f]=x.cells:=by subst U aa af;rfl
def ahx{a b:Bool}(h:a=b):tV (.val (.bool a)) (.val (.bool b)):=by subst h;exact .refl
def Le{a b:Bool}(h:a=b):tV (.lit a) (.val (.bool b)):=by subst h;exact .lit
def perm_nil:M.Perm (M++[]):=by simp
def fM.ahy{E:Env}(aO:c6 P E){aG:ec}(av:E t=some dh)(cL:dh.bO=.array 4 e)(he:E e=some aG){k:IntKind}(mw:aG.bO=.int k)(aA:P.eqGuardType P.depth t=false){fX bz bJ cj sS b1 cb c9:Int}{V:Value->Prop}
  (h:V (.bool (!(fX == sS&&(bz == b1&&(bJ == cb&&cj == c9)))))):fM P .neq t x y (.val (.agg #[.int k fX,.int k bz,.int k bJ,.int k cj])) (.val (.agg #[.int k sS,.int k b1,.int k cb,.int k c9])) V other:=by
 obtain⟨d,fy,fz⟩:=(aO _ _ av).fp;obtain⟨qM,Ou,Ov⟩:=(aO _ _ he).fp;obtain⟨inf,z,hi,e9,_⟩:=(aO _ _ he).inf;have U:d=.array 4 e:=by rw[cL]at fz;cases d<;>simp_all[fo]
 have aa:qM=.int k:=by rw[mw]at Ov;cases qM<;>simp_all[fo]
 subst U;subst aa;have gj:inf.size=1:=by rw[e9];exact(aO _ _ he).JK (by rw[mw];rfl)
 refine .mk _ _ _ rfl rfl (λw=>?_) h;simp only[cy,run_eqGuard_agg (hm:=aA),cc,binOp,Va fy Ou hi gj,dc]
def Py(x:aY):Spec Tryz.prog 272 [x.val] I M λv I' M'=>v=.bool x.lg/\I'=I/\M'=M:=by
 obtain⟨a,b,c⟩:=x;refine b4 [] aU Tryz.func272 rfl rfl rfl ?_;intro B ao;refine b2.mk (λh=>?_) (λh=>?_)
 ·exact⟨_,_,.refl,by rw[show a=false from h];rfl,rfl,rfl⟩
 ·exact⟨_,_,.refl,by rw[show a=true from h];rfl,rfl,rfl⟩
structure nY(I:aR)(M:List aI)(a:Option Addr)(n:Nat)(ks:List aY):Prop where
 n:ks.length=n
 rd:∀ j (h:j<ks.length),∃ ad,a=some ad/\cq I M (ad.add (j*3)) 3 ks[j].cells
def l8(aB:aY×Bool)(k:aY):aY×Bool:=(⟨aB.1.z&&k.z,aB.1.s||k.s,aB.1.f||(aB.2&&k.f)⟩,aB.2&&k.lg)
def qX(ks:List aY):aY×Bool:=ks.foldl l8 (⟨true,false,false⟩,true)
def Ey(ks:List aY):aY:=⟨(qX ks).1.z,(qX ks).1.s&&(qX ks).2,(qX ks).1.f⟩
def nZ(f k:aY):aY:=⟨f.z||(f.f&&k.z),f.s||(f.f&&k.s),f.f&&k.f⟩
def Hw(ks:List aY):aY:=ks.foldl nZ ⟨false,false,true⟩
def b8:aY:=⟨false,false,false⟩
def oM(d:aM)(k:aY):aY:=bif decide (d.hi=0)then⟨true,false,false⟩else⟨k.z||(decide (d.lo=0)&&k.f),k.s,decide (0<d.lo)&&k.f⟩
def eF(d:aM)(ks:List aY):aY:=
 bif decide (d.k=0)then⟨true,false,false⟩else
 bif decide (d.k=1)then⟨false,!d.oD,true⟩else
 bif decide (d.k=2)then⟨false,true,true⟩else
 bif decide (d.k=3)then ks.headD b8 else
 bif decide (d.k=4)then Ey ks else
 bif decide (d.k=5)then Hw ks else
 bif decide (d.k=6)then oM d (ks.headD b8)else
 bif decide (d.k=7)then⟨(ks.headD b8).lg,false,(ks.headD b8).f⟩else
 bif decide (d.k=8)then⟨(ks.headD b8).f,false,(ks.headD b8).lg⟩else ks.headD b8
section
variable{I:aR}{M:List aI}{d:aM}{a:Option Addr}{n c:Nat}{ks:List aY}
def nY.head(ae:nY I M a n ks)(ao:0<n):∃ ad,a=some ad/\cq I M (ad.add (0*3)) 3 (ks.headD b8).cells:=by
 have U:0<ks.length:=by rw[ae.n];exact ao
 obtain⟨ad,aa,af⟩:=ae.rd 0 U;refine⟨ad,aa,?_⟩;cases ks with
 |nil=>simp at U| cons k ks=>exact af
def ahz:Spec Tryz.prog 242 [d.val,.slice a n c] I M λv I' M'=>v=aY.val ⟨true,false,false⟩/\I'=I/\M'=M:=by refine b4 [] aU Tryz.func242 rfl rfl rfl ?_;intro B ao;exact⟨_,_,.refl,rfl,rfl,rfl⟩
def ahA:Spec Tryz.prog 244 [d.val,.slice a n c] I M λv I' M'=>v=aY.val ⟨false,true,true⟩/\I'=I/\M'=M:=by refine b4 [] aU Tryz.func244 rfl rfl rfl ?_;intro B ao;exact⟨_,_,.refl,rfl,rfl,rfl⟩
def Xi(ae:nY I M a n ks)(ao:0<n):Spec Tryz.prog 245 [d.val,.slice a n c] I M λv I' M'=>v=(ks.headD b8).val/\I'=I/\M'=M:=by refine b4 [] aU Tryz.func245 rfl rfl rfl ?_;intro B jX;obtain⟨ad,bP,bu⟩:=ae.head ao;refine bk.mk ad 0 bP rfl ao ?_;refine aK.mk _ bu ?_;exact⟨_,_,.refl,rfl,rfl,rfl⟩
def ahB(ae:nY I M a n ks)(ao:0<n):Spec Tryz.prog 249 [d.val,.slice a n c] I M λv I' M'=>v=aY.val ⟨(ks.headD b8).lg,false,(ks.headD b8).f⟩/\I'=I/\M'=M:=by refine b4 [] aU Tryz.func249 rfl rfl rfl ?_;intro B jX;obtain⟨ad,bP,bu⟩:=ae.head ao;refine c4.draw aU rfl rfl rfl ?_;refine bk.mk ad 0 bP rfl ao ?_;refine aK.mk _ bu ?_;refine bk.mk ad 0 bP rfl ao ?_;refine aK.mk _ (bu.part (k:=2) (m:=1) (by decide)) ?_;refine g7.pV M [] _ perm_nil (Py (ks.headD b8)) (λv I' M' h x ab=>by rw[h.2.2];exact ab) ?_;rintro v I' M' -⟨rfl,rfl,rfl⟩;rw[dX];exact⟨_,_,.refl,rfl,rfl,rfl⟩
def ahC(ae:nY I M a n ks)(ao:0<n):Spec Tryz.prog 250 [d.val,.slice a n c] I M λv I' M'=>v=aY.val ⟨(ks.headD b8).f,false,(ks.headD b8).lg⟩/\I'=I/\M'=M:=by refine b4 [] aU Tryz.func250 rfl rfl rfl ?_;intro B jX;obtain⟨ad,bP,bu⟩:=ae.head ao;refine c4.draw aU rfl rfl rfl ?_;refine bk.mk ad 0 bP rfl ao ?_;refine aK.mk _ (bu.part (k:=2) (m:=1) (by decide)) ?_;refine bk.mk ad 0 bP rfl ao ?_;refine aK.mk _ bu ?_;refine g7.pV M [] _ perm_nil (Py (ks.headD b8)) (λv I' M' h x ab=>by rw[h.2.2];exact ab) ?_;rintro v I' M' -⟨rfl,rfl,rfl⟩;rw[dX];exact⟨_,_,.refl,rfl,rfl,rfl⟩
def ahD:Spec Tryz.prog 243 [d.val,.slice a n c] I M λv I' M'=>v=aY.val ⟨false,!d.oD,true⟩/\I'=I/\M'=M:=by refine b4 [] aU Tryz.func243 rfl rfl rfl ?_;intro B ao;refine fM.ahy aU (e:=54) rfl rfl rfl rfl (by kernel_rfl) ?_;exact⟨_,_,.refl,rfl,rfl,rfl⟩
def ahE(ae:nY I M a n ks)(ao:0<n):Spec Tryz.prog 248 [d.val,.slice a n c] I M λv I' M'=>v=(oM d (ks.headD b8)).val/\I'=I/\M'=M:=by
 refine b4 [] aU Tryz.func248 rfl rfl rfl ?_;intro B jX;obtain⟨ad,bP,bu⟩:=ae.head ao;generalize ks.headD b8=k at bu;obtain⟨Pz,PA,PB⟩:=k;refine aJ.mk (λh=>?_) (λh=>?_)
 ·refine⟨_,_,.refl,Px ?_ ?_ ?_,rfl,rfl⟩<;>simp[oM,h]
 refine bk.mk ad 0 bP rfl ao ?_;refine aK.mk _ bu ?_
 repeat' refine b2.mk (λh=>?_) (λh=>?_)
 all_goals refine⟨_,_,.refl,Px ?_ ?_ ?_,rfl,rfl⟩
 all_goals first | (simp_all[oM];done) | (simp_all[oM];intros;omega)
def ahF(ae:nY I M a n ks)(aw:n<=140737488355328):Spec Tryz.prog 247 [d.val,.slice a n c] I M λv I' M'=>v=(Hw ks).val/\I'=I/\M'=M:=by
 refine b4 [] aU Tryz.func247 rfl rfl rfl ?_;intro B jX;have cY:=ae.n;refine dG.inv (ι:=Nat×aY) (λx=>{ bx:=[(4,.ref 4 0),(5,.ref 5 0),(9,.val (.slice a n c)),(10,.val (.int .i64 n)),(11,.val (.int .i64 x.1))],cl:=[(4,b8.cells),(5,x.2.cells)],c2:=I,du:=M }) (λx=>x.1<=n/\x.2=(ks.take x.1).foldl nZ ⟨false,false,true⟩) (λx=>n-x.1) ?_ ?_
 ·exact⟨(0,⟨false,false,true⟩),⟨bw _,rfl⟩,.refl,hS,.cons rfl (.cons rfl .nil)⟩
 rintro⟨i,f⟩⟨hi,aC⟩;simp only at hi aC;refine aJ.mk (λh=>?_) (λh=>?_)
 rotate_left
 ·have cm:n<=i:=by have:=cx h;omega
  refine⟨_,_,.refl,?_,rfl,rfl⟩;rw[fq (by omega)]at aC;rw[Hw,<-aC];rfl
 have aS:i<n:=by have:=bS h;omega
 obtain⟨ad,bP,bu⟩:=ae.rd i (by omega);have dT:∀ g:aY,g=nZ f (ks[i]'(by omega))->g=(ks.take (i+1)).foldl nZ ⟨false,false,true⟩:=λg aA=>by rw[ho (by omega),En,<-aC,aA];rfl
 generalize ks[i]'(by omega)=k at bu dT;obtain⟨Pz,PA,PB⟩:=k;obtain⟨z,s,PC⟩:=f;refine bk.mk ad i bP rfl aS ?_;refine aK.mk _ bu ?_
 repeat' refine b2.mk (λh=>?_) (λh=>?_)
 all_goals refine bc.mk _ (cF (i:=i) (by omega)) ?_
 all_goals refine⟨(i+1,_),⟨⟨by simp only;omega,dT _ rfl⟩,by simp only;omega⟩,.refl,hS,.cons rfl (.cons ?_ .nil)⟩
 all_goals clear dT aC bu
 all_goals (refine congrArg some (Xh ?_ ?_ ?_)<;>simp_all[nZ])
def ahG(l:List aY)(k:aY):qX (l++[k])=l8 (qX l) k:=by simp[qX]
def ahH(ae:nY I M a n ks)(aw:n<=140737488355328):Spec Tryz.prog 246 [d.val,.slice a n c] I M λv I' M'=>v=(Ey ks).val/\I'=I/\M'=M:=by
 refine b4 [] aU Tryz.func246 rfl rfl rfl ?_;intro B jX;have cY:=ae.n;refine dG.inv (ι:=Nat×aY×Bool) (λx=>{ bx:=[(4,.ref 4 0),(5,.ref 5 0),(6,.val (.bool x.2.2)),(10,.val (.slice a n c)),(11,.val (.int .i64 n)),(12,.val (.int .i64 x.1))],cl:=[(4,b8.cells),(5,x.2.1.cells)],c2:=I,du:=M }) (λx=>x.1<=n/\x.2=qX (ks.take x.1)) (λx=>n-x.1) ?_ ?_
 ·exact⟨(0,⟨true,false,false⟩,true),⟨bw _,rfl⟩,.refl,.cons .refl (.cons .refl (.cons .lit (f'))),.cons rfl (.cons rfl .nil)⟩
 rintro⟨i,f,Xj⟩⟨hi,aC⟩;simp only at hi aC;refine aJ.mk (λh=>?_) (λh=>?_)
 rotate_left
 ·have cm:n<=i:=by have:=cx h;omega
  rw[fq (by omega)]at aC;obtain⟨z,s,PC⟩:=f;have az:(qX ks).1=⟨z,s,PC⟩:=by rw[<-aC]
  have aF:(qX ks).2=Xj:=by rw[<-aC]
  refine b2.mk (λaa=>?_) (λaa=>?_)
  all_goals refine⟨_,_,.refl,Px ?_ ?_ ?_,rfl,rfl⟩
  all_goals simp_all[Ey]
 have aS:i<n:=by have:=bS h;omega
 obtain⟨ad,bP,bu⟩:=ae.rd i (by omega);have dT:∀ g:aY×Bool,g=l8 (f,Xj) (ks[i]'(by omega))->g=qX (ks.take (i+1)):=λg aA=>by rw[ho (by omega),ahG,<-aC,aA]
 generalize ks[i]'(by omega)=k at bu dT;obtain⟨Pz,PA,PB⟩:=k;obtain⟨z,s,PC⟩:=f;refine bk.mk ad i bP rfl aS ?_;refine aK.mk _ bu ?_
 repeat' first
  |refine b2.mk (λh=>?_) (λh=>?_)|(refine a0.mk M [] _ perm_nil (Py ⟨Pz,PA,PB⟩) ?_;rintro v I' M' -⟨rfl,rfl,rfl⟩;rw[dX])
 all_goals refine bc.mk _ (cF (i:=i) (by omega)) ?_
 all_goals refine⟨(i+1,_),⟨⟨by simp only;omega,dT _ rfl⟩,by simp only;omega⟩,.refl,.cons .refl (.cons .refl (.cons ?_ (f'))),.cons rfl (.cons ?_ .nil)⟩
 all_goals clear dT aC bu
 all_goals first
  |(refine congrArg some (Xh ?_ ?_ ?_)<;>simp_all[l8])|(refine ahx ?_;simp_all[l8])|(refine Le ?_;simp_all[l8])
end
def cq.mono{a:Addr}{n:Nat}(h:cq I M a n vs)(bL:∀ b o,I b=some o->I' b=some o):cq I' M a n vs:=by obtain⟨U,cs,T,al,aa,af⟩:=h;exact⟨U,cs,T,al,aa.imp (bL _ _) id,af⟩
def cq.sub{I:aR}{M M':List aI}{a:Addr}{n:Nat}{vs:List Value}(h:cq I M a n vs)(a2:∀ x∈M,x∈M'):cq I M' a n vs:=by obtain⟨U,cs,T,al,aa,af⟩:=h;refine⟨U,cs,T,al,aa.imp id ?_,af⟩;rintro⟨x,ab,az,aF⟩;exact⟨x,a2 x ab,az,aF⟩
section
variable{X:c7}{β:Nat->Nat}{a:Act}{w:World}{F:Fr}{C:d'}{I:aR}{M:List aI}{o:Oper}{Q:Exit->Act->World->Prop}{K:gp}
def Xk(aO:c6 X.P X.E){k:Nat}(av:X.E t=some dh)(cL:dh.bO=.map k e)(ae:X.E k=some ug)(fm:ug.bO=.string)(a9:∀ w,(zeroValue e).run X.P w=.ok (.int .i64 0) w){g:Nat}{l:List (ByteArray×Int)}(aA:w.heap[g]?=some (jD l))(ok:Bool) :
  (Instr.lookup t (.map (some g)) (.string s) ok).run X.P w=.ok (bif ok then .tuple #[.int .i64 ((eB s l).getD 0),.bool (eB s l).isSome]else .int .i64 ((eB s l).getD 0)) w:=by
 obtain⟨d,fy,fz⟩:=(aO _ _ av).fp;have U:d=.map k e:=by rw[cL]at fz;cases d<;>simp_all[fo]
 subst U;obtain⟨la,s7,hN⟩:=(aO _ _ ae).fp;have aa:la=.string:=by rw[fm]at hN;cases la<;>simp_all[fo]
 subst aa;have aA:w.heap[g]?=some (.map (pu l 0).toArray l.length):=aA;obtain⟨r,wK,oJ⟩:=KR s l 0 0;have aN:(Instr.checkKey (pu l 0).toArray.isEmpty 10000 k (.string s)).run X.P w=.ok () w:=D' (k:=.string s) s7 (by simp[MapKept.IsKey]) _ 9999;have vO:(Instr.findKey k (.string s) (pu l 0)).run X.P w=.ok r w:=Ea s7 wK;unfold Instr.lookup;simp only[cy,run_underlying fy,cc,D9 aA,dc,aN,vO];cases r with
 |none=>
  cases ap:eB s l with
  |none=>cases ok<;>simp[a9]
  |some v=>rw[ap]at oJ;simp at oJ
 |some p=>
  cases ap:eB s l with
  |none=>rw[ap]at oJ;simp at oJ
  |some v=>
   rw[ap]at oJ;simp only[k3,kd]at oJ;cases ok<;>simp[oJ]
def bs.Xl(aO:c6 X.P X.E)(au:o.op=.lookup t x y true)(ag:∀ d,o.dst=some d->d<X.n){k:Nat}(av:X.E t=some dh)(cL:dh.bO=.map k e)(ae:X.E k=some ug)(fm:ug.bO=.string)(a9:∀ w,(zeroValue e).run X.P w=.ok (.int .i64 0) w){g:Nat}{l:List (ByteArray×Int)}(ab:bG F x=.val (.map (some g)))(aH:bG F y=.val (.string s))(a2:ix I M g (jD l))
  (h:K (put o.dst (.val (.tuple #[.int .i64 ((eB s l).getD 0),.bool (eB s l).isSome])) F) C I M):bs X o F C I M K:=by
 refine⟨λa w Q ⟨β,a4⟩=>?_⟩;have e':=Xk aO av cL ae fm a9 (a2.heap a4.holds) (s:=s) true;have ex:=dk a4.al ab;have pd:=dk a4.al aH;refine wJ a4 ag (by rw[au];simp) ?_ h;unfold execOp;simp only[au,ex,pd,cy,e',cc,dc,bh]
def bs.ahI(aO:c6 X.P X.E)(au:o.op=.lookup t x y false)(ag:∀ d,o.dst=some d->d<X.n){k:Nat}(av:X.E t=some dh)(cL:dh.bO=.map k e)(ae:X.E k=some ug)(fm:ug.bO=.string)(a9:∀ w,(zeroValue e).run X.P w=.ok (.int .i64 0) w){g:Nat}{l:List (ByteArray×Int)}(ab:bG F x=.val (.map (some g)))(aH:bG F y=.val (.string s))(a2:ix I M g (jD l))
  (h:K (put o.dst (.val (.int .i64 ((eB s l).getD 0))) F) C I M):bs X o F C I M K:=by
 refine⟨λa w Q ⟨β,a4⟩=>?_⟩;have e':=Xk aO av cL ae fm a9 (a2.heap a4.holds) (s:=s) false;have ex:=dk a4.al ab;have pd:=dk a4.al aH;refine wJ a4 ag (by rw[au];simp) ?_ h;unfold execOp;simp only[au,ex,pd,cy,e',cc,dc,bf]
end
def xk:List (ByteArray×Int)->Nat->List bI->List (ByteArray×Int)
 |aZ,_,[]=>aZ| aZ,i,d::ds=>xk (bif (eB d.name aZ).isSome then aZ else aZ++[(d.name,(i:Int))]) (i+1) ds
def bE(ds:List bI):List (ByteArray×Int):=xk [] 0 ds
def Xm(aA:g.ok I):Spec Tryz.prog 206 [g.val] I [] λv I' M'=>(∀ b o,I b=some o->I' b=some o)/\M'=[]/\∃ h9,v=.map (some h9)/\I' h9=some (jD (bE g.ds)):=by
 refine Gq [] aU Tryz.func206 rfl rfl rfl ?_;intro B ao;have gB:=aA.n;have ig:=aA.bg.cap;refine bs.makeMap aU rfl (by simp) rfl rfl rfl λjE=>?_;refine dG.inv (ι:=Nat×List (ByteArray×Int)) (λx=>{ bx:=[(1,.ref 1 0),(3,.val (.map (some jE))),(13,.val (.slice g.a g.n g.c)),(14,.val (.int .i64 g.n)),(15,.val (.int .i64 x.1))],cl:=[(1,[.slice g.a g.n g.c])],c2:=I,du:=[⟨jE,jD x.2⟩] }) (λx=>x.1<=g.n/\bE g.ds=xk x.2 x.1 (g.ds.drop x.1)) (λx=>g.n-x.1) ?_ ?_
 ·exact⟨(0,[]),⟨bw _,rfl⟩,.refl,hS,.cons rfl .nil⟩
 rintro⟨i,aZ⟩⟨hi,aD⟩;simp only at hi aD;refine aJ.mk (λh=>?_) (λh=>?_)
 ·have aS:i<g.n:=by have:(i:Int)<(g.n:Int):=bS h;omega
  have b':i<g.ds.length:=by omega
  obtain⟨ad,bP,bu⟩:=aA.bg.row bI.de aS b';rw[e8 b',xk]at aD;refine bk.mk ad i bP rfl aS ?_;refine aK.mk _ (bu _) ?_;refine bs.Xl aU rfl (by simp) rfl rfl rfl rfl (λw=>Hg w) (l:=aZ) (g:=jE) rfl rfl (.inr ⟨_,.head _,rfl,rfl⟩) ?_;refine aJ.mk (λaf=>?_) (λaf=>?_)
  ·have aw:(eB g.ds[i].name aZ).isSome=false:=by simpa using af
   have ap:eB g.ds[i].name aZ=none:=by simpa using aw
   rw[aw,bf]at aD;refine bs.Ww aU rfl rfl rfl rfl rfl rfl rfl rfl rfl ap (Mr:=[]) (.refl _) ?_;refine bc.mk _ (cF (i:=i) (by omega)) ?_;exact⟨(i+1,_),⟨⟨by simp only;omega,aD⟩,by simp only;omega⟩,.refl,hS,.cons rfl .nil⟩
  ·have aw:(eB g.ds[i].name aZ).isSome=true:=by simpa using af
   rw[aw,bh]at aD;refine bc.mk _ (cF (i:=i) (by omega)) ?_;exact⟨(i+1,_),⟨⟨by simp only;omega,aD⟩,by simp only;omega⟩,.refl,hS,.cons rfl .nil⟩
 have cm:g.n<=i:=by have:¬ (i:Int)<(g.n:Int):=cx h;omega
 rw[jT (by omega),xk]at aD;intro hH;have ah:=hH.d ⟨jE,jD aZ⟩ (.head _);exact⟨_,_,.rA rfl (by simp) .refl,qP ah,rfl,jE,rfl,by rw[aD];exact uj ..⟩
def ahJ:List Nat:=[242,243,244,245,246,247,248,249,250,245]
def PD:List Value:=[.func (.func 242) #[] #[],.func (.func 243) #[] #[],.func (.func 244) #[] #[],.func (.func 245) #[] #[],.func (.func 246) #[] #[],.func (.func 247) #[] #[],.func (.func 248) #[] #[],.func (.func 249) #[] #[],.func (.func 250) #[] #[],.func (.func 245) #[] #[]]
def ahK:Spec Tryz.prog 229 [] I [] λv I' M'=>v=.agg PD.toArray/\I'=I/\M'=[]:=by refine b4 [] aU Tryz.func229 rfl rfl rfl ?_;intro B ao;exact⟨_,_,.refl,rfl,rfl,rfl⟩
def xl{a:Option Addr}{n c:Nat}{ks:List aY}(ae:nY I M a n ks)(aw:n<=140737488355328)(j:Nat)(aj:j<10)(ag:d.k=j)(ao:(j=3\/6<=j)->0<n) :
  Spec Tryz.prog (ahJ.getD j 0) [d.val,.slice a n c] I M λv I' M'=>v=(eF d ks).val/\I'=I/\M'=M:=by
 match j,aj,ag,ao with
 |0,_,ag,_=>rw[show eF d ks=⟨true,false,false⟩ by simp[eF,ag]];exact ahz (I:=I) (M:=M) (d:=d) (a:=a) (n:=n) (c:=c)| 1,_,ag,_=>rw[show eF d ks=⟨false,!d.oD,true⟩ by simp[eF,ag]];exact ahD (I:=I) (M:=M) (d:=d) (a:=a) (n:=n) (c:=c)| 2,_,ag,_=>rw[show eF d ks=⟨false,true,true⟩ by simp[eF,ag]];exact ahA (I:=I) (M:=M) (d:=d) (a:=a) (n:=n) (c:=c)| 3,_,ag,ao=>rw[show eF d ks=ks.headD b8 by simp[eF,ag]];exact Xi (d:=d) (c:=c) ae (ao (by omega))| 4,_,ag,_=>rw[show eF d ks=Ey ks by simp[eF,ag]];exact ahH (d:=d) (c:=c) ae aw| 5,_,ag,_=>rw[show eF d ks=Hw ks by simp[eF,ag]];exact ahF (d:=d) (c:=c) ae aw| 6,_,ag,ao=>rw[show eF d ks=oM d (ks.headD b8) by simp[eF,ag]];exact ahE (d:=d) (c:=c) ae (ao (by omega))| 7,_,ag,ao=>rw[show eF d ks=⟨(ks.headD b8).lg,false,(ks.headD b8).f⟩ by simp[eF,ag]];exact ahB (d:=d) (c:=c) ae (ao (by omega))| 8,_,ag,ao=>rw[show eF d ks=⟨(ks.headD b8).f,false,(ks.headD b8).lg⟩ by simp[eF,ag]];exact ahC (d:=d) (c:=c) ae (ao (by omega))| 9,_,ag,ao=>rw[show eF d ks=ks.headD b8 by simp[eF,ag]];exact Xi (d:=d) (c:=c) ae (ao (by omega))
def fR(b:Nat)(l:List aY):aI:=⟨b,.cells (l.flatMap aY.cells).toArray 293 (0,0)⟩
def Cp(l:List aY):(l.flatMap aY.cells).length=l.length*3:=fb _ 3 aY.de l
def Ez{b:Nat}{l:List aY}(a2:fR b l∈M){j:Nat}(aj:j<l.length):cq I M ((⟨b,0,none⟩:Addr).add (j*3)) 3 l[j].cells:=by have h:=ew (I:=I) (cs:=l.flatMap aY.cells) (k:=j*3) (n:=3) a2 (by rw[Cp];omega);rwa [yB aY.cells 3 aY.de l j aj]at h
def PE(l:List aY)(j:Nat)(aj:j<l.length)(x:aY):bK (l.flatMap aY.cells) (j*3) x.cells=(l.set j x).flatMap aY.cells:=by
 have e:l.flatMap aY.cells=(l.take j).flatMap aY.cells++(l[j].cells++(l.drop (j+1)).flatMap aY.cells):=by
  have U:l=l.take j++(l[j]::l.drop (j+1)):=by rw[<-e8 aj,vB]
  have aa:=congrArg (λq:List aY=>q.flatMap aY.cells) U;simp only[ku,nG]at aa;exact aa
 have ap:((l.take j).flatMap aY.cells).length=j*3:=by rw[Cp,gr];congr 1;omega
 unfold bK;rw[Gr,cG aj,ku,nG,e,fA];congr 1
 ·rw[<-ap,yu]
 ·congr 1;rw[aY.de,<-ap,<-fA,GV (by rw[cP,aY.de])]
def Xn(l:List aY)(x:aY):(l++[x]).flatMap aY.cells=l.flatMap aY.cells++x.cells:=by simp
def a5.zero{os:a5}{size:Nat}{xs:List Value}(h:os.ok size xs):a5.ok ⟨os.a,0,os.c,os.aQ⟩ size []:=by refine⟨by simp,λaE=>⟨rfl,(h.nil aE).2⟩,λg aA=>?_⟩;obtain⟨U,aa,af,aP⟩:=h.cap g aA;exact⟨U,bw _,af,by simp⟩
def a5.Xo{l:List aY}(h:os.ok 3 (l.flatMap aY.cells))(a2:∀ x∈os.aL e,x∈M):nY I M (os.a.map λg=>⟨g,0,none⟩) os.n l:=by
 have ap:=h.len;rw[Cp]at ap;refine⟨by omega,λj aj=>?_⟩;obtain⟨a,n,c,aQ⟩:=os;simp only at ap;cases a with
 |none=>have:=(h.nil rfl).1;simp only at this;omega
 |some g=>
  obtain⟨U,aa,af,aP⟩:=h.cap g rfl;simp only at U aa aP;refine⟨⟨g,0,none⟩,rfl,?_⟩;have hm:(⟨g,.cells aQ.toArray e (0,0)⟩:aI)∈M:=a2 _ (by simp[a5.aL]);have ai:=ew (I:=I) (cs:=aQ) (k:=j*3) (n:=3) hm (by omega);have az:(aQ.drop (j*3)).take 3=((aQ.take (n*3)).drop (j*3)).take 3:=by rw[yv,vv];congr 1;omega
  rw[az,aP,yB aY.cells 3 aY.de l j aj]at ai;exact ai
def ng(pl:List (ByteArray×Int))(bx aZ:List aY)(d:aM):List aY:=
 d.ax.map (λk=>aZ.getD k.toNat b8)++bif decide (d.k=3)then [bx.getD ((eB d.t pl).getD 0).toNat b8]else []
def eg(pl:List (ByteArray×Int))(bx:List aY):List aM->List aY->List aY
 |[],aZ=>aZ| d::ds,aZ=>eg pl bx ds (aZ++[eF d (ng pl bx aZ d)])
def Hx(pl:List (ByteArray×Int))(bx:List aY):∀ (ds:List aM) (aZ:List aY),(eg pl bx ds aZ).length=aZ.length+ds.length
 |[],aZ=>rfl| d::ds,aZ=>by rw[eg,Hx];simp;omega
def Xp(pl:List (ByteArray×Int))(n:Nat)(ns:List aM):Prop:=∀ d∈ns,d.k=3->∃ i:Nat,eB d.t pl=some (i:Int)/\i<n
def Xq{n:Int}(h:fits d n=true):d.k<10:=by apply Int.lt_of_not_ge;intro cm;have:(10:Int)<=d.k:=cm;simp[fits,this]at h
def Xr{n:Int}(ao:0<=d.k)(h:fits d n=true)(ae:6<=d.k):0<n:=by
 have rQ:=Xq h;have EA:d.k=6\/d.k=7\/d.k=8\/d.k=9:=by omega
 rcases EA with e | e | e | e<;>(simp[fits,e,uf,p3,oC]at h;omega)
def ahL(aZ:List aY)(n i:Nat)(ap:aZ.length=i)(hi:i<n)(x:aY):(aZ++List.replicate (n-i) b8).set i x=(aZ++[x])++List.replicate (n-(i+1)) b8:=by subst ap;rw[yO _ _ (bY _),lE,show n-aZ.length=(n-(aZ.length+1))+1 by omega,vR,Ad];simp
def Xs:∀ n:Nat,rowOf b8.cells (n*3)=(List.replicate n b8).flatMap aY.cells:=λn=>by
 apply ys
 ·rw[Cp,zU];simp[vl,madeCells]
 intro i U aa;have af:∀ x∈(List.replicate n b8).flatMap aY.cells,x=Value.bool false:=λx ab=>by obtain⟨y,aH,ab⟩:=uu.1 ab;have:=List.eq_of_mem_replicate aH;subst this;simpa[aY.cells,b8]using ab
 rw[af _ (cC aa)];have a9:∀ j,j<3->b8.cells[j]! = Value.bool false:=λj aj=>by
  match j,aj with
  |0,_=>rfl| 1,_=>rfl| 2,_=>rfl
 simp only[rowOf,lA,r2];exact a9 _ (Er _ (by decide))
def xm{aZ:List aY}{n i:Nat}(mr:aZ.length=i)(aS:i<n)(x:aY):Nat.ble (0+i*3+x.cells.length) ((aZ++List.replicate (n-i) b8).flatMap aY.cells).length=true:=by rw[nW,Cp,aY.de,cP,zU];omega
def Xt{t:bN}(av:t.ok I)(ai:right t=true)(hm:I h9=some (jD pl)){bx:List aY}(ld:nY I M0 Ae ln bx)(aN:Xp pl ln t.ns) :
  Spec Tryz.prog 208 [.map (some h9),.slice Ae ln lc,t.val] I M0 λv I' M'=>I'=I/\∃ b,v=.slice (some ⟨b,0,none⟩) t.n t.n/\M'=fR b (eg pl bx t.ns [])::M0:=by
 refine b4 [] aU Tryz.func208 rfl rfl rfl ?_;intro B ao;have k':=av.n;have ig:=av.bg.cap;refine a0.mk [] M0 _ (.refl _) ahK ?_;rintro v dO M1 -⟨rfl,rfl,rfl⟩;refine nE.mk t.n t.n rfl rfl (bY _) (by show 3*t.n<=_;omega) (by omega) ?_;refine cv.mk λdm Lf ahM=>?_;refine dG.inv (ι:=Nat×List aY×a5) (λx=>{ bx:=[(0,.val (.map (some h9))),(1,.val (.slice Ae ln lc)),(5,.ref 5 0),(7,.ref 7 0),(8,.val (.slice (some ⟨dm,0,none⟩) t.n t.n)),(9,.val x.2.2.val),(20,.val (.slice t.a t.n t.c)),(21,.val (.int .i64 t.n)),(22,.val (.int .i64 x.1))],cl:=[(5,t.cells),(7,PD)],c2:=dO,du:=fR dm (x.2.1++List.replicate (t.n-x.1) b8)::(x.2.2.aL 293++M0) }) (λx=>x.1<=t.n/\x.2.1.length=x.1/\eg pl bx t.ns []=eg pl bx (t.ns.drop x.1) x.2.1/\∃ ks,x.2.2.ok 3 ks) (λx=>t.n-x.1) ?_ ?_
 ·refine⟨(0,[],qV),⟨bw _,rfl,rfl,[],ur 3⟩,?_,lV,.cons rfl (.cons rfl .nil)⟩;have e:rowOf b8.cells (t.n*3)=(List.replicate t.n b8).flatMap aY.cells:=Xs t.n;simp only[fR,kN,xh];rw[<-e];exact .refl
 rintro⟨i,aZ,fV⟩⟨hi,mr,Lg,ast,nh⟩;simp only at hi mr Lg nh;refine aJ.mk (λh=>?_) (λh=>?_)
 rotate_left
 ·have cm:i=t.n:=by have:¬ (i:Int)<(t.n:Int):=cx h;omega
  subst cm;rw[jT (by omega),eg]at Lg;refine⟨dO,fR dm (aZ++List.replicate (t.n-t.n) b8)::M0,.sub (.cons_cons _ (mW _ _)) .refl,rfl,dm,rfl,?_⟩;rw[Lg,lE,Pb,dX]
 have aS:i<t.n:=by have:(i:Int)<(t.n:Int):=bS h;omega
 have b':i<t.ns.length:=by omega
 obtain⟨ad,bP,bu⟩:=av.bg.row aM.de aS b';have eE:=cC b';have ag:=av.ns _ eE;have cY:=ag.kn;have n1:=ag.bg.cap;have iY:=mz ai i b';have uy:=Ec ai b';have Xu:=aN _ eE;have Xv:eg pl bx t.ns []=eg pl bx (t.ns.drop (i+1)) (aZ++[eF t.ns[i] (ng pl bx aZ t.ns[i])]):=by rw[Lg,e8 b',eg]
 generalize t.ns[i]=d at bu ag cY n1 iY uy Xu Xv;have cZ:=ag.k.1;have PF:=Xq uy;have uz:∀ {M:List aI} {q:Int},fR dm (aZ++List.replicate (t.n-i) b8)∈M->q∈d.ax->cq dO M ((⟨dm,0,none⟩:Addr).add (q.toNat*3)) 3 (aZ.getD q.toNat b8).cells:=fun {M q} a2 ay=>by
  have Hy:=iY q ay;have eS:q.toNat<aZ.length:=by omega
  have:=Ez (I:=dO) a2 (j:=q.toNat) (by rw[cP];omega);rw[Ek eS]at this;simpa[cS,eS]using this
 refine bk.mk ad i bP rfl aS ?_;refine aK.mk _ (bu _) ?_;refine jO.mk 0 0 rfl rfl (bY _) (bw _) ?_;refine dG.inv (ι:=Nat×a5×List aY) (λx=>{ bx:=[(0,.val (.map (some h9))),(1,.val (.slice Ae ln lc)),(5,.ref 5 0),(7,.ref 7 0),(8,.val (.slice (some ⟨dm,0,none⟩) t.n t.n)),(9,.val x.2.1.val),(10,.val (.int .i64 i)),(11,.ref 11 0),(20,.val (.slice t.a t.n t.c)),(21,.val (.int .i64 t.n)),(22,.val (.int .i64 i)),(30,.val (.slice d.iW d.kn d.iz)),(31,.val (.int .i64 d.kn)),(32,.val (.int .i64 x.1))],cl:=[(5,t.cells),(7,PD),(11,d.cells)],c2:=dO,du:=fR dm (aZ++List.replicate (t.n-i) b8)::(x.2.1.aL 293++M0) }) (λx=>x.1<=d.kn/\x.2.1.ok 3 (x.2.2.flatMap aY.cells)/\x.2.2=(d.ax.take x.1).map λk=>aZ.getD k.toNat b8) (λx=>d.kn-x.1) ?_ ?_
 ·exact⟨(0,⟨fV.a,0,fV.c,fV.aQ⟩,[]),⟨bw _,a5.zero nh,rfl⟩,.refl,Uv,.cons rfl (.cons rfl (.cons rfl .nil))⟩
 rintro⟨k,cU,hK⟩⟨ae,fP,ep⟩;simp only at ae fP ep;have asu:cU.n=hK.length:=by have:=fP.len;rw[Cp]at this;omega
 have Lh:hK.length<=k:=by rw[ep,cD];exact GS _ _
 refine aJ.mk (λh=>?_) (λh=>?_)
 ·have gq:k<d.kn:=by have:(k:Int)<(d.kn:Int):=bS h;omega
  have mj:k<d.ax.length:=by omega
  obtain⟨eK,fG,e0⟩:=ag.bg.one gq mj;have ay:=iY _ (cC mj);refine bk.mk eK k fG rfl gq ?_;refine aK.mk _ (e0 _) ?_;refine bk.mk ⟨dm,0,none⟩ d.ax[k].toNat rfl (by omega) (by omega) ?_;refine aK.mk _ (uz (.head _) (cC mj)) ?_;refine cv.mk λb9 hD Ce=>?_;refine bs.append aU rfl (by simp) (e:=293) rfl rfl rfl cU fP rfl (m:=1) rfl (bU:=(aZ.getD d.ax[k].toNat b8).cells) (by decide) (ew (b:=b9) (cs:=(aZ.getD d.ax[k].toNat b8).cells) (k:=0) (n:=3) (T:=293) (.head _) (b0 rfl)) rfl (Mr:=⟨b9,.cells (aZ.getD d.ax[k].toNat b8).cells.toArray 293 (0,0)⟩::fR dm (aZ++List.replicate (t.n-i) b8)::M0) (by
   have:=Ab [(⟨b9,.cells (aZ.getD d.ax[k].toNat b8).cells.toArray 293 (0,0)⟩:aI),fR dm (aZ++List.replicate (t.n-i) b8)] (cU.aL 293) M0;exact this) (by simp only[maxLen];omega) (by show(cU.n+1)*3<=_;omega) ?_
  intro a3 dS Cq i' gw im oL;refine bc.mk _ (cF (i:=k) (by omega)) ?_;refine⟨(k+1,⟨some a3,cU.n+1,dS,Cq⟩,hK++[aZ.getD d.ax[k].toNat b8]),⟨⟨by simp only;omega,?_,?_⟩,by simp only;omega⟩,.sub (M1:=[(⟨a3,.cells Cq.toArray 293 (0,0)⟩:aI),fR dm (aZ++List.replicate (t.n-i) b8)]++M0) (.cons_cons _ (.cons _ (.refl _))) (.perm (List.Perm.swap _ _ _) .refl),Uv,.cons rfl (.cons rfl (.cons rfl .nil))⟩;·simp only;rw[Xn];exact W' fP (aY.de _) i' gw im oL
  ·simp only;rw[ho mj,fi,<-ep];rfl
 have cm:d.kn<=k:=by have:¬ (k:Int)<(d.kn:Int):=cx h;omega
 rw[fq (by omega)]at ep;have asv:hK.length=d.ax.length:=by rw[ep,cD]
 have hL:cU.n+1<=140737488355328:=by omega
 clear h ae Lh;have iC:∀ x:aY,bK ((aZ++List.replicate (t.n-i) b8).flatMap aY.cells) (0+i*3) x.cells=((aZ++[x])++List.replicate (t.n-(i+1)) b8).flatMap aY.cells:=λx=>by rw[dz,PE _ _ (by simp;omega),ahL aZ t.n i mr aS]
 have hinv:∀ (yV:a5) (PG:List Value),yV.ok 3 PG->((i+1<=t.n/\(aZ++[eF d (ng pl bx aZ d)]).length=i+1/\eg pl bx t.ns []=eg pl bx (t.ns.drop (i+1)) (aZ++[eF d (ng pl bx aZ d)])/\∃ ks,yV.ok 3 ks)/\t.n-(i+1)<t.n-i):=λyV PG aa=>
  ⟨⟨aS,by simp[mr],Xv,PG,aa⟩,by omega⟩
 by_cases af:d.k=3
 ·refine aJ.mk (λ_=>?_) (λh=>absurd h (by simp[af]));obtain⟨q,yW,jH⟩:=Xu af;have Hz:ng pl bx aZ d=hK++[bx.getD q b8]:=by rw[ng,<-ep,yW,af];rfl
  have eS:q<bx.length:=by rw[ld.n];exact jH
  obtain⟨iq,Ei,ek⟩:=ld.rd q eS;have ahN:bx.getD q b8=bx[q]:=by simp[cS,eS]
  refine bs.ahI aU rfl (by simp) rfl rfl rfl rfl (λw=>Hg w) (l:=pl) (g:=h9) rfl rfl (.inl hm) ?_;rw[yW];refine bk.mk iq q Ei rfl jH ?_;refine aK.mk _ (ek.sub λx ab=>by simp[ab]) ?_;refine cv.mk λb9 hD Ce=>?_;refine bs.append aU rfl (by simp) (e:=293) rfl rfl rfl cU fP rfl (m:=1) rfl (bU:=bx[q].cells) (by decide) (ew (b:=b9) (cs:=bx[q].cells) (k:=0) (n:=3) (T:=293) (.head _) (b0 rfl)) rfl (Mr:=⟨b9,.cells bx[q].cells.toArray 293 (0,0)⟩::fR dm (aZ++List.replicate (t.n-i) b8)::M0) (by
   have:=Ab [(⟨b9,.cells bx[q].cells.toArray 293 (0,0)⟩:aI),fR dm (aZ++List.replicate (t.n-i) b8)] (cU.aL 293) M0;exact this) (by simp only[maxLen];omega) (by show(cU.n+1)*3<=_;omega) ?_
  intro a3 dS Cq i' gw im oL;have gy:=W' (g:=a3) fP (aY.de bx[q]) i' gw im oL;rw[<-Xn,<-ahN,<-Hz]at gy;have fm:=a5.Xo (I:=dO) (M:=⟨a3,.cells Cq.toArray 293 (0,0)⟩::⟨b9,.cells bx[q].cells.toArray 293 (0,0)⟩::fR dm (aZ++List.replicate (t.n-i) b8)::M0) (e:=293) gy (λx ab=>by
   simp only[a5.aL,gI]at ab;subst ab;exact .head _)
  refine c4.draw aU rfl rfl rfl ?_;obtain⟨la,eO,s1,s2,eU,hM,lo,di,uA,uB,uC,uD⟩:=d;simp only at af;subst af;refine ez.mk 3 rfl (by decide) ?_;refine g7.pV _ [] _ perm_nil (xl (d:=⟨3,eO,s1,s2,eU,hM,lo,di,uA,uB,uC,uD⟩) fm hL 3 (by decide) rfl (λ_=>Nat.succ_pos _)) (λv I' M' h x ab=>by rw[h.2.2];exact ab) ?_;rintro v fE ey -⟨rfl,rfl,rfl⟩;rw[dX];refine bk.mk ⟨dm,0,none⟩ i rfl rfl aS ?_;refine cz.jl [(⟨a3,.cells Cq.toArray 293 (0,0)⟩:aI),⟨b9,.cells bx[q].cells.toArray 293 (0,0)⟩] M0 ((aZ++List.replicate (t.n-i) b8).flatMap aY.cells) _ rfl (xm mr aS _) rfl _ (iC _) ?_;refine bc.mk _ (cF (i:=i) (by omega)) ?_;exact⟨(i+1,_,⟨some a3,cU.n+1,dS,Cq⟩),hinv _ _ gy,.sub (M1:=[(⟨a3,.cells Cq.toArray 293 (0,0)⟩:aI),fR dm _]++M0) (.cons_cons _ (.cons _ (.refl _))) (.perm (List.Perm.swap _ _ _) .refl),lV,.cons rfl (.cons rfl .nil)⟩
 refine aJ.mk (λh=>absurd (bS h) af) (λ_=>?_);have Hz:ng pl bx aZ d=hK:=by rw[ng,<-ep,c0 af];simp
 rw[Hz]at hinv;have fm:=a5.Xo (I:=dO) (M:=fR dm (aZ++List.replicate (t.n-i) b8)::(cU.aL 293++M0)) (e:=293) fP (λx ab=>by simp[ab]);have ki:6<=d.k->0<cU.n:=λbj=>by have:=Xr cZ uy bj;omega
 have EA:d.k=0\/d.k=1\/d.k=2\/d.k=4\/d.k=5\/d.k=6\/d.k=7\/d.k=8\/d.k=9:=by omega
 obtain⟨la,eO,s1,s2,eU,hM,lo,di,uA,uB,uC,uD⟩:=d;simp only at EA ki af;refine c4.draw aU rfl rfl rfl ?_;rcases EA with rfl | rfl | rfl | rfl | rfl | rfl | rfl | rfl | rfl
 ·refine ez.mk 0 rfl (by decide) ?_;refine g7.pV _ [] _ perm_nil (xl (d:=⟨0,eO,s1,s2,eU,hM,lo,di,uA,uB,uC,uD⟩) fm (yQ hL) 0 (by decide) rfl (λh=>by omega)) (λv I' M' h x ab=>by rw[h.2.2];exact ab) ?_;rintro v fE ey -⟨rfl,rfl,rfl⟩;rw[dX];refine bk.mk ⟨dm,0,none⟩ i rfl rfl aS ?_;refine cz.jl [] (cU.aL 293++M0) ((aZ++List.replicate (t.n-i) b8).flatMap aY.cells) _ rfl (xm mr aS _) rfl _ (iC _) ?_;refine bc.mk _ (cF (i:=i) (by omega)) ?_;exact⟨(i+1,_,cU),hinv _ _ fP,.refl,lV,.cons rfl (.cons rfl .nil)⟩
 ·refine ez.mk 1 rfl (by decide) ?_;refine g7.pV _ [] _ perm_nil (xl (d:=⟨1,eO,s1,s2,eU,hM,lo,di,uA,uB,uC,uD⟩) fm (yQ hL) 1 (by decide) rfl (λh=>by omega)) (λv I' M' h x ab=>by rw[h.2.2];exact ab) ?_;rintro v fE ey -⟨rfl,rfl,rfl⟩;rw[dX];refine bk.mk ⟨dm,0,none⟩ i rfl rfl aS ?_;refine cz.jl [] (cU.aL 293++M0) ((aZ++List.replicate (t.n-i) b8).flatMap aY.cells) _ rfl (xm mr aS _) rfl _ (iC _) ?_;refine bc.mk _ (cF (i:=i) (by omega)) ?_;exact⟨(i+1,_,cU),hinv _ _ fP,.refl,lV,.cons rfl (.cons rfl .nil)⟩
 ·refine ez.mk 2 rfl (by decide) ?_;refine g7.pV _ [] _ perm_nil (xl (d:=⟨2,eO,s1,s2,eU,hM,lo,di,uA,uB,uC,uD⟩) fm (yQ hL) 2 (by decide) rfl (λh=>by omega)) (λv I' M' h x ab=>by rw[h.2.2];exact ab) ?_;rintro v fE ey -⟨rfl,rfl,rfl⟩;rw[dX];refine bk.mk ⟨dm,0,none⟩ i rfl rfl aS ?_;refine cz.jl [] (cU.aL 293++M0) ((aZ++List.replicate (t.n-i) b8).flatMap aY.cells) _ rfl (xm mr aS _) rfl _ (iC _) ?_;refine bc.mk _ (cF (i:=i) (by omega)) ?_;exact⟨(i+1,_,cU),hinv _ _ fP,.refl,lV,.cons rfl (.cons rfl .nil)⟩
 ·refine ez.mk 4 rfl (by decide) ?_;refine g7.pV _ [] _ perm_nil (xl (d:=⟨4,eO,s1,s2,eU,hM,lo,di,uA,uB,uC,uD⟩) fm (yQ hL) 4 (by decide) rfl (λh=>by omega)) (λv I' M' h x ab=>by rw[h.2.2];exact ab) ?_;rintro v fE ey -⟨rfl,rfl,rfl⟩;rw[dX];refine bk.mk ⟨dm,0,none⟩ i rfl rfl aS ?_;refine cz.jl [] (cU.aL 293++M0) ((aZ++List.replicate (t.n-i) b8).flatMap aY.cells) _ rfl (xm mr aS _) rfl _ (iC _) ?_;refine bc.mk _ (cF (i:=i) (by omega)) ?_;exact⟨(i+1,_,cU),hinv _ _ fP,.refl,lV,.cons rfl (.cons rfl .nil)⟩
 ·refine ez.mk 5 rfl (by decide) ?_;refine g7.pV _ [] _ perm_nil (xl (d:=⟨5,eO,s1,s2,eU,hM,lo,di,uA,uB,uC,uD⟩) fm (yQ hL) 5 (by decide) rfl (λh=>by omega)) (λv I' M' h x ab=>by rw[h.2.2];exact ab) ?_;rintro v fE ey -⟨rfl,rfl,rfl⟩;rw[dX];refine bk.mk ⟨dm,0,none⟩ i rfl rfl aS ?_;refine cz.jl [] (cU.aL 293++M0) ((aZ++List.replicate (t.n-i) b8).flatMap aY.cells) _ rfl (xm mr aS _) rfl _ (iC _) ?_;refine bc.mk _ (cF (i:=i) (by omega)) ?_;exact⟨(i+1,_,cU),hinv _ _ fP,.refl,lV,.cons rfl (.cons rfl .nil)⟩
 ·refine ez.mk 6 rfl (by decide) ?_;refine g7.pV _ [] _ perm_nil (xl (d:=⟨6,eO,s1,s2,eU,hM,lo,di,uA,uB,uC,uD⟩) fm (yQ hL) 6 (by decide) rfl (λ_=>ki (by decide))) (λv I' M' h x ab=>by rw[h.2.2];exact ab) ?_;rintro v fE ey -⟨rfl,rfl,rfl⟩;rw[dX];refine bk.mk ⟨dm,0,none⟩ i rfl rfl aS ?_;refine cz.jl [] (cU.aL 293++M0) ((aZ++List.replicate (t.n-i) b8).flatMap aY.cells) _ rfl (xm mr aS _) rfl _ (iC _) ?_;refine bc.mk _ (cF (i:=i) (by omega)) ?_;exact⟨(i+1,_,cU),hinv _ _ fP,.refl,lV,.cons rfl (.cons rfl .nil)⟩
 ·refine ez.mk 7 rfl (by decide) ?_;refine g7.pV _ [] _ perm_nil (xl (d:=⟨7,eO,s1,s2,eU,hM,lo,di,uA,uB,uC,uD⟩) fm (yQ hL) 7 (by decide) rfl (λ_=>ki (by decide))) (λv I' M' h x ab=>by rw[h.2.2];exact ab) ?_;rintro v fE ey -⟨rfl,rfl,rfl⟩;rw[dX];refine bk.mk ⟨dm,0,none⟩ i rfl rfl aS ?_;refine cz.jl [] (cU.aL 293++M0) ((aZ++List.replicate (t.n-i) b8).flatMap aY.cells) _ rfl (xm mr aS _) rfl _ (iC _) ?_;refine bc.mk _ (cF (i:=i) (by omega)) ?_;exact⟨(i+1,_,cU),hinv _ _ fP,.refl,lV,.cons rfl (.cons rfl .nil)⟩
 ·refine ez.mk 8 rfl (by decide) ?_;refine g7.pV _ [] _ perm_nil (xl (d:=⟨8,eO,s1,s2,eU,hM,lo,di,uA,uB,uC,uD⟩) fm (yQ hL) 8 (by decide) rfl (λ_=>ki (by decide))) (λv I' M' h x ab=>by rw[h.2.2];exact ab) ?_;rintro v fE ey -⟨rfl,rfl,rfl⟩;rw[dX];refine bk.mk ⟨dm,0,none⟩ i rfl rfl aS ?_;refine cz.jl [] (cU.aL 293++M0) ((aZ++List.replicate (t.n-i) b8).flatMap aY.cells) _ rfl (xm mr aS _) rfl _ (iC _) ?_;refine bc.mk _ (cF (i:=i) (by omega)) ?_;exact⟨(i+1,_,cU),hinv _ _ fP,.refl,lV,.cons rfl (.cons rfl .nil)⟩
 ·refine ez.mk 9 rfl (by decide) ?_;refine g7.pV _ [] _ perm_nil (xl (d:=⟨9,eO,s1,s2,eU,hM,lo,di,uA,uB,uC,uD⟩) fm (yQ hL) 9 (by decide) rfl (λ_=>ki (by decide))) (λv I' M' h x ab=>by rw[h.2.2];exact ab) ?_;rintro v fE ey -⟨rfl,rfl,rfl⟩;rw[dX];refine bk.mk ⟨dm,0,none⟩ i rfl rfl aS ?_;refine cz.jl [] (cU.aL 293++M0) ((aZ++List.replicate (t.n-i) b8).flatMap aY.cells) _ rfl (xm mr aS _) rfl _ (iC _) ?_;refine bc.mk _ (cF (i:=i) (by omega)) ?_;exact⟨(i+1,_,cU),hinv _ _ fP,.refl,lV,.cons rfl (.cons rfl .nil)⟩
structure aY.le(a b:aY):Prop where
 z:a.z=true->b.z=true
 s:a.s=true->b.s=true
 f:a.f=true->b.f=true
def aY.le_refl(a:aY):a.le a:=⟨id,id,id⟩
def aY.le.trans{a b c:aY}(h:a.le b)(be:b.le c):a.le c:=⟨λx=>be.z (h.z x),λx=>be.s (h.s x),λx=>be.f (h.f x)⟩
def aY.le.antisymm{a b:aY}(h:a.le b)(be:b.le a):a=b:=by
 obtain⟨bz,bJ,cj⟩:=a;obtain⟨b1,cb,c9⟩:=b;have e:∀ {x y:Bool},(x=true->y=true)->(y=true->x=true)->x=y:=fun {x y} h be=>by cases x<;>cases y<;>simp_all
 have az:bz=b1:=e h.z be.z;have aF:bJ=cb:=e h.s be.s;have bo:cj=c9:=e h.f be.f;subst az aF bo;rfl
def aY.lh(a:aY):b8.le a:=⟨(λh=>by cases h),(λh=>by cases h),(λh=>by cases h)⟩
def aY.PH{a b:aY}(h:a.le b):a.lg=true->b.lg=true:=by intro ar;simp only[aY.lg,kM]at ar |-;exact ar.imp h.z h.s
inductive eW:List aY->List aY->Prop
 |nil:eW [] []| cons {a b l m} (h:aY.le a b) (t:eW l m):eW (a::l) (b::m)
def eW.refl:∀ l,eW l l
 |[]=>.nil| a::l=>.cons a.le_refl (eW.refl l)
def eW.trans:∀ {a b c},eW a b->eW b c->eW a c
 |_,_,_,.nil,.nil=>.nil| _,_,_,.cons h t,.cons be dt=>.cons (h.trans be) (t.trans dt)
def eW.antisymm:∀ {a b},eW a b->eW b a->a=b
 |_,_,.nil,_=>rfl| _,_,.cons h t,.cons be dt=>by rw[h.antisymm be,t.antisymm dt]
def eW.len:∀ {a b},eW a b->a.length=b.length
 |_,_,.nil=>rfl| _,_,.cons h t=>by simp[t.len]
def eW.append:∀ {a b c d},eW a b->eW c d->eW (a++c) (b++d)
 |_,_,_,_,.nil,h=>h| _,_,_,_,.cons h t,be=>.cons h (t.append be)
def eW.getD:∀ {a b},eW a b->∀ i,(a.getD i b8).le (b.getD i b8)
 |_,_,.nil,i=>by simp;exact aY.le_refl _
 |_,_,.cons h t,0=>h| _,_,.cons h t,i+1=>by simpa using t.getD i
def eW.of:∀ {a b:List aY},a.length=b.length->(∀ i,i<a.length->(a.getD i b8).le (b.getD i b8))->eW a b
 |[],[],_,_=>.nil| x::a,y::b,ap,h=>.cons (by simpa using h 0 (by simp)) (eW.of (by simpa using ap) λi hi=>by simpa using h (i+1) (by simpa using hi))
def eW.map{α:Type}{f g:α->aY}:∀ {l:List α},(∀ x∈l,(f x).le (g x))->eW (l.map f) (l.map g)
 |[],_=>.nil| x::l,h=>.cons (h x (.head _)) (eW.map λy aH=>h y (.tail _ aH))
def eW.head{a b:List aY}(h:eW a b):(a.headD b8).le (b.headD b8):=by
 cases h with
 |nil=>exact aY.le_refl _| cons h _=>exact h
def eW.lh:∀ l:List aY,eW (List.replicate l.length b8) l
 |[]=>.nil| a::l=>.cons a.lh (eW.lh l)
def Li:∀ {a b:List aY},eW a b->∀ {x y:aY×Bool},x.1.le y.1->(x.2=true->y.2=true)->(a.foldl l8 x).1.le (b.foldl l8 y).1/\((a.foldl l8 x).2=true->(b.foldl l8 y).2=true)
 |_,_,.nil,_,_,U,aa=>⟨U,aa⟩
 |_,_,.cons h t,x,y,U,aa=>by
  refine Li t ⟨?_,?_,?_⟩ ?_;·simp only[l8,cp];exact λg=>⟨U.z g.1,h.z g.2⟩
  ·simp only[l8,kM];exact λg=>g.imp U.s h.s
  ·simp only[l8,kM,cp];exact λg=>g.imp U.f λg=>⟨aa g.1,h.f g.2⟩
  ·simp only[l8,cp];exact λg=>⟨aa g.1,aY.PH h g.2⟩
def Xw:∀ {a b:List aY},eW a b->∀ {x y:aY},x.le y->(a.foldl nZ x).le (b.foldl nZ y)
 |_,_,.nil,_,_,U=>U
 |_,_,.cons h t,x,y,U=>by
  refine Xw t ⟨?_,?_,?_⟩;·simp only[nZ,kM,cp];exact λg=>g.imp U.z λg=>⟨U.f g.1,h.z g.2⟩
  ·simp only[nZ,kM,cp];exact λg=>g.imp U.s λg=>⟨U.f g.1,h.s g.2⟩
  ·simp only[nZ,cp];exact λg=>⟨U.f g.1,h.f g.2⟩
def ahO(d:aM){a b:aY}(h:a.le b):(oM d a).le (oM d b):=by
 unfold oM;cases decide (d.hi=0)with
 |true=>exact aY.le_refl _
 |false=>
  refine⟨?_,h.s,?_⟩;·simp only[bf,kM,cp];exact λg=>g.imp h.z λg=>⟨g.1,h.f g.2⟩
  ·simp only[bf,cp];exact λg=>⟨g.1,h.f g.2⟩
def ahP(d:aM){a b:List aY}(h:eW a b):(eF d a).le (eF d b):=by
 have bl:=h.head;unfold eF;cases decide (d.k=0)with
 |true=>exact aY.le_refl _| false=>
 cases decide (d.k=1)with
 |true=>exact aY.le_refl _| false=>
 cases decide (d.k=2)with
 |true=>exact aY.le_refl _| false=>
 cases decide (d.k=3)with
 |true=>exact bl| false=>
 cases decide (d.k=4)with
 |true=>have ar:=Li h (x:=(⟨true,false,false⟩,true)) (y:=(⟨true,false,false⟩,true)) (aY.le_refl _) id;refine⟨ar.1.z,?_,ar.1.f⟩;simp only[bh,bf,Ey,qX,cp];exact λg=>⟨ar.1.s g.1,ar.2 g.2⟩
 |false=>
 cases decide (d.k=5)with
 |true=>exact Xw h (aY.le_refl _)| false=>
 cases decide (d.k=6)with
 |true=>exact ahO d bl| false=>
 cases decide (d.k=7)with
 |true=>exact⟨aY.PH bl,id,bl.f⟩| false=>
 cases decide (d.k=8)with
 |true=>exact⟨bl.f,id,aY.PH bl⟩| false=>exact bl
def ahQ{bx r6 aZ uE:List aY}(h:eW bx r6)(aE:eW aZ uE)(d:aM):eW (ng pl bx aZ d) (ng pl r6 uE d):=by
 unfold ng;refine(eW.map λk _=>aE.getD _).append ?_;cases decide (d.k=3)with
 |true=>exact .cons (h.getD _) .nil| false=>exact .nil
def Xx{pl:List (ByteArray×Int)}{bx r6:List aY}(h:eW bx r6):∀ (ds:List aM) {aZ uE:List aY},eW aZ uE->eW (eg pl bx ds aZ) (eg pl r6 ds uE)
 |[],_,_,aE=>aE| d::ds,_,_,aE=>Xx h ds (aE.append (.cons (ahP d (ahQ h aE d)) .nil))
def n2(pl:List (ByteArray×Int))(bx:List aY)(d:bI):aY:=(eg pl bx d.t.ns []).getD d.t.bF.toNat b8
def PI{bx r6:List aY}(h:eW bx r6)(d:bI):(n2 pl bx d).le (n2 pl r6 d):=(Xx h d.t.ns .nil).getD _
def n3(pl:List (ByteArray×Int)):Nat->List bI->List aY->List aY
 |_,[],l=>l| i,d::ds,l=>n3 pl (i+1) ds (l.set i (n2 pl l d))
structure uF(ds:List bI)(l:List aY):Prop where
 len:l.length=ds.length
 up:∀ i (h:i<ds.length),(l.getD i b8).le (n2 (bE ds) l ds[i])
 least:∀ m:List aY,m.length=ds.length->(∀ i (h:i<ds.length),(n2 (bE ds) m ds[i]).le (m.getD i b8))->eW l m
def HA(l:List aY)(i j:Nat)(x:aY)(hi:i<l.length):(l.set i x).getD j b8=if i=j then x else l.getD j b8:=by
 simp only[cS,o8];by_cases e:i=j
 ·subst e;simp[hi]
 ·rw[ca e,ca e]
def uF.start(ds:List bI):uF ds (List.replicate ds.length b8):=by
 refine⟨by simp,λi h=>?_,λm hm _=>by rw[<-hm];exact eW.lh m⟩;have:(List.replicate ds.length b8).getD i b8=b8:=by simp[cS,h]
 rw[this];exact aY.lh _
def uF.step{ds:List bI}{l:List aY}(h:uF ds l){i:Nat}(hi:i<ds.length):uF ds (l.set i (n2 (bE ds) l ds[i]))/\eW l (l.set i (n2 (bE ds) l ds[i])):=by
 have eP:i<l.length:=by rw[h.len];exact hi
 have bn:eW l (l.set i (n2 (bE ds) l ds[i])):=eW.of (by simp) λj aj=>by
  rw[HA _ _ _ _ eP];by_cases e:i=j;·subst e;rw[cG rfl];exact h.up i hi
  ·rw[ca e];exact aY.le_refl _
 refine⟨⟨by simpa using h.len,λj aj=>?_,λm hm aN=>?_⟩,bn⟩
 ·rw[HA _ _ _ _ eP];by_cases e:i=j
  ·subst e;rw[cG rfl];exact PI bn _
  ·rw[ca e];exact(h.up j aj).trans (PI bn _)
 ·have HB:=h.least m hm aN;refine eW.of (by simp[h.len,hm]) λj aj=>?_;rw[HA _ _ _ _ eP];by_cases e:i=j
  ·subst e;rw[cG rfl];exact(PI HB _).trans (aN i hi)
  ·rw[ca e];exact HB.getD j
def PJ{ds:List bI}:∀ (bd a8:List bI) {l:List aY},ds=a8++bd->uF ds l->uF ds (n3 (bE ds) a8.length bd l)/\eW l (n3 (bE ds) a8.length bd l) /\ (n3 (bE ds) a8.length bd l=l->∀ i (h:i<ds.length),a8.length<=i->l.getD i b8=n2 (bE ds) l ds[i])
 |[],a8,l,jF,h=>⟨h,eW.refl l,λ_ i hi cm=>by rw[jF,dX]at hi;omega⟩
 |d::bd,a8,l,jF,h=>by
  have hi:a8.length<ds.length:=by rw[jF];simp
  have ag:ds[a8.length]=d:=by simp[jF]
  have eP:a8.length<l.length:=by rw[h.len];exact hi
  obtain⟨s1,s2⟩:=h.step hi;rw[ag]at s1 s2;obtain⟨i',gw,im⟩:=PJ bd (a8++[d]) (by rw[jF];simp) s1;rw[cP,eQ,ih,dz]at i' gw im;refine⟨i',s2.trans gw,λe i hz cm=>?_⟩;have az:l.set a8.length (n2 (bE ds) l d)=l:=by refine eW.antisymm ?_ s2;have:n3 (bE ds) a8.length (d::bd) l=n3 (bE ds) (a8.length+1) bd (l.set a8.length (n2 (bE ds) l d)):=rfl;rw[this]at e;rw[e]at gw;exact gw
  have aF:n3 (bE ds) (a8.length+1) bd l=l:=by have:n3 (bE ds) a8.length (d::bd) l=n3 (bE ds) (a8.length+1) bd (l.set a8.length (n2 (bE ds) l d)):=rfl;rw[this,az]at e;exact e
  rw[az]at im;by_cases aD:i=a8.length;·subst aD;have aP:=HA l a8.length a8.length (n2 (bE ds) l d) eP;rw[az,cG rfl]at aP;rw[aP,ag]
  ·exact im aF i hz (by omega)
structure qY(ds:List bI)(l:List aY):Prop where
 len:l.length=ds.length
 fix:∀ i (h:i<ds.length),l.getD i b8=n2 (bE ds) l ds[i]
 least:∀ m:List aY,m.length=ds.length->(∀ i (h:i<ds.length),(n2 (bE ds) m ds[i]).le (m.getD i b8))->eW l m
def uF.done{ds:List bI}{l:List aY}(h:uF ds l)(aC:n3 (bE ds) 0 ds l=l):qY ds l:=
 ⟨h.len,λi hi=>(PJ ds [] rfl h).2.2 aC i hi (bw _),h.least⟩
def qY.unique{ds:List bI}{l l':List aY}(h:qY ds l)(be:qY ds l'):l=l':=
 eW.antisymm (h.least l' be.len λi hi=>by rw[<-be.fix i hi];exact aY.le_refl _) (be.least l h.len λi hi=>by rw[<-h.fix i hi];exact aY.le_refl _)
def EB(x:aY):Nat:=(bif x.z then 0 else 1)+((bif x.s then 0 else 1)+(bif x.f then 0 else 1))
def Al(l:List aY):Nat:=(l.map EB).sum
def ahR{a b:aY}(h:a.le b):EB b<=EB a/\(EB a<=EB b->a=b):=by
 obtain⟨bz,bJ,cj⟩:=a;obtain⟨b1,cb,c9⟩:=b;obtain⟨U,aa,af⟩:=h;cases bz<;>cases b1<;>cases bJ<;>cases cb<;>cases cj<;>cases c9<;>simp_all[EB]
def Xy:∀ {l m:List aY},eW l m->Al m<=Al l/\(Al l<=Al m->l=m)
 |_,_,.nil=>⟨bY _,λ_=>rfl⟩| _,_,.cons h t=>by obtain⟨U,aa⟩:=ahR h;obtain⟨t1,t2⟩:=Xy t;simp only[Al,dv,pg]at t1 t2 |-;refine⟨by omega,λh=>?_⟩;rw[aa (by omega),t2 (by omega)]
def ahS{l m:List aY}(h:eW l m)(bH:m≠l):Al m<Al l:=by obtain⟨U,aa⟩:=Xy h;apply Pc U;intro e;exact bH (aa (by omega)).symm
def yX(nm:ByteArray):List bI->Nat->Option Int
 |[],_=>none| d::ds,i=>bif decide (nm=d.name)then some (i:Int)else yX nm ds (i+1)
def Xz(s n:ByteArray)(v:Int):∀ l:List (ByteArray×Int),eB s (l++[(n,v)])=match eB s l with
  |some x=>some x| none=>bif decide (s=n)then some v else none
 |[]=>rfl
 |p::l=>by
  have a7:=Xz s n v l;simp only[rU,eB];cases decide (s=p.1)with
  |true=>rfl| false=>simpa using a7
def XA:∀ (ds:List bI) (aZ:List (ByteArray×Int)) (i:Nat) (nm:ByteArray),eB nm (xk aZ i ds)=match eB nm aZ with
  |some x=>some x| none=>yX nm ds i
 |[],aZ,i,nm=>by rw[xk,yX];cases eB nm aZ<;>rfl
 |d::ds,aZ,i,nm=>by
  rw[xk,XA ds,yX];cases ag:(eB d.name aZ).isSome with
  |true=>
   simp only[bh];cases ap:eB nm aZ with
   |some x=>rfl
   |none=>
    have:decide (nm=d.name)=false:=by rw[ow];intro e;rw[<-e,ap]at ag;cases ag
    rw[this];rfl
  |false=>
   simp only[bf,Xz];cases ap:eB nm aZ with
   |some x=>rfl| none=>cases decide (nm=d.name)<;>rfl
def PK(ds:List bI)(nm:ByteArray):eB nm (bE ds)=yX nm ds 0:=XA ds [] 0 nm
def PL:∀ {ds:List bI} {i:Nat} {nm:ByteArray} {v:Int},yX nm ds i=some v->∃ j:Nat,v=((i+j:Nat):Int)/\j<ds.length
 |d::ds,i,nm,v,h=>by
  unfold yX at h;cases ag:decide (nm=d.name)with
  |true=>rw[ag]at h;simp only[bh,kd]at h;exact⟨0,by rw[<-h];rfl,by simp⟩| false=>rw[ag]at h;obtain⟨j,U,aa⟩:=PL h;exact⟨j+1,by rw[U];congr 1;omega,by simpa using aa⟩
def tb(pl:List (ByteArray×Int))(ns:List aM):Bool:=ns.all λd=>!decide (d.k=3)||(eB d.t pl).isSome
def XB{ds:List bI}(h:tb (bE ds) ns=true):Xp (bE ds) ds.length ns:=by intro d ag ae;have:=gh.1 h d ag;simp only[ae,Ep,rI,wO]at this;obtain⟨v,ak⟩:=Option.isSome_iff_exists.1 this;have ls:=ak;rw[PK]at ls;obtain⟨j,U,aa⟩:=PL ls;rw[dz]at U;exact⟨j,by rw[ak,U],aa⟩
def XC:∀ (ds:List bI) {aZ r:List (ByteArray×Int)} {i:Nat},qU aZ i ds=some r->xk aZ i ds=r
 |[],aZ,r,i,h=>by simp only[qU,kd]at h;exact h
 |d::ds,aZ,r,i,h=>by
  unfold qU at h;cases ag:(eB d.name aZ).isSome with
  |true=>rw[ag]at h;cases h| false=>rw[ag]at h;rw[xk,ag];exact XC ds h
def ahT{d:bI}{cd:aM}(aw:cd∈d.t.ns):∀ (ds:List bI) (i:Nat),d∈ds->∃ j,(j,cd)∈vP i ds:=by
 intro ds
 induction ds with
 |nil=>intro i ag;cases ag
 |cons x ds a7=>
  intro i ag;rcases eL.1 ag with e | ag;·subst e;exact⟨i,dV.2 (.inl (dC.2 ⟨cd,aw,rfl⟩))⟩
  ·obtain⟨j,aj⟩:=a7 (i+1) ag;exact⟨j,dV.2 (.inr aj)⟩
def ahU(h:gk a1 g=0):∀ d∈g.ds,tb (bE g.ds) d.t.ns=true:=by
 unfold gk at h;cases U:decide ((g.n:Int)=0)with
 |true=>rw[U]at h;cases h| false=>
 cases aa:s8 g.ds with
 |false=>rw[U,aa]at h;cases h| true=>
 cases af:qT a1 g with
 |true=>rw[U,aa,af]at h;cases h| false=>
 rw[U,aa,af]at h;simp only[bf,rI]at h;split at h
 ·cases h
 ·rename_i aZ mr;have aD:bE g.ds=aZ:=XC g.ds mr;cases aP:yN aZ g.ds with
  |false=>rw[aP]at h;cases h| true=>intro d ag;rw[aD,tb,gh];intro cd cf;obtain⟨j,aj⟩:=ahT cf g.ds 0 ag;exact gh.1 aP _ aj
def ahV(h:gk a1 g=0):s8 g.ds=true:=by
 unfold gk at h;cases U:decide ((g.n:Int)=0)with
 |true=>rw[U]at h;cases h| false=>
 cases aa:s8 g.ds with
 |false=>rw[U,aa]at h;cases h| true=>rfl
def nY.mono{a:Option Addr}{n:Nat}{ks:List aY}(h:nY I M a n ks)(bL:∀ b o,I b=some o->I' b=some o):nY I' M a n ks:=
 ⟨h.n,λj aj=>by
  obtain⟨ad,U,aa⟩:=h.rd j aj;exact⟨ad,U,aa.mono bL⟩⟩
def Lj{b:Nat}{l:List aY}(a2:fR b l∈M):nY I M (some ⟨b,0,none⟩) l.length l:=
 ⟨rfl,λj aj=>⟨_,rfl,Ez a2 aj⟩⟩
def Am(g:dn)(bx:List aY)(t:bN):Option (List aY):=bif decide (bx.length=g.n)&&(right t&&tb (bE g.ds) t.ns)then some (eg (bE g.ds) bx t.ns [])else none
def ahW(bM:hU I a1)(aA:g.ok I){t:bN}(av:t.ok I){bx:List aY}(ld:nY I M0 Ae ln bx) :
  Spec Tryz.prog 163 [g.val,.slice Ae ln lc,t.val] I M0 λv I' M'=>(∀ b o,I b=some o->I' b=some o) /\
   ((Am g bx t=none/\v=.tuple #[.slice none 0 0,.bool false]/\M'=M0)\/∃ r b,Am g bx t=some r/\v=.tuple #[.slice (some ⟨b,0,none⟩) t.n t.n,.bool true]/\M'=fR b r::M0):=by
 refine b4 [] aU Tryz.func163 rfl rfl rfl ?_;intro B ao;have gB:=aA.n;have k':=av.n;have ig:=av.bg.cap;have XD:=ld.n;refine b2.mk (λh=>?_) (λh=>?_)
 rotate_left
 ·refine⟨_,_,.refl,λ_ _ h=>h,.inl ⟨?_,rfl,rfl⟩⟩;have bH:¬ (ln:Int)=(g.n:Int):=by simpa using h
  have:decide (bx.length=g.n)=false:=c0 (by omega);simp[Am,this]
 have r7:ln=g.n:=by
  have:(ln:Int)=(g.n:Int):=by simpa using h
  omega
 have iX:decide (bx.length=g.n)=true:=fr (by omega);refine a0.mk [] M0 _ (.refl _) (w5 bM.c av) ?_;rintro v dO M1 -⟨rfl,rfl,rfl⟩;refine aJ.mk (λh=>?_) (λh=>?_)
 ·refine⟨_,_,.refl,λ_ _ h=>h,.inl ⟨?_,rfl,rfl⟩⟩;have:right t=false:=by simpa using h
  simp[Am,this]
 have ai:right t=true:=by simpa using h
 refine a0.mk [] M0 _ (.refl _) (Xm aA) ?_;rintro v fE ey -⟨iL,rfl,h9,rfl,EC⟩;have dZ:=av.mono iL;refine dG.inv (ι:=Nat) (λx=>{ bx:=[(1,.val (.slice Ae ln lc)),(3,.ref 3 0),(5,.ref 5 0),(8,.val (.map (some h9))),(27,.val (.slice t.a t.n t.c)),(28,.val (.int .i64 t.n)),(29,.val (.int .i64 x))],cl:=[(3,[.slice g.a g.n g.c]),(5,t.cells)],c2:=fE,du:=M0 }) (λx=>x<=t.n/\∀ d∈t.ns.take x,(!decide (d.k=3)||(eB d.t (bE g.ds)).isSome)=true) (λx=>t.n-x) ?_ ?_
 ·exact⟨0,⟨bw _,λd ag=>by simp at ag⟩,.refl,ko,.cons rfl (.cons rfl .nil)⟩
 rintro i⟨hi,sL⟩;refine aJ.mk (λh=>?_) (λh=>?_)
 ·have aS:i<t.n:=by have:(i:Int)<(t.n:Int):=bS h;omega
  have b':i<t.ns.length:=by omega
  obtain⟨ad,bP,bu⟩:=dZ.bg.row aM.de aS b';have nK:t.ns.take (i+1)=t.ns.take i++[t.ns[i]]:=ho b';have gW:=cC b';have next:(!decide (t.ns[i].k=3)||(eB t.ns[i].t (bE g.ds)).isSome)=true->∀ d∈t.ns.take (i+1),(!decide (d.k=3)||(eB d.t (bE g.ds)).isSome)=true:=λh d ag=>by
   rw[nK]at ag;rcases dV.1 ag with ag | ag;·exact sL d ag
   ·simp only[gI]at ag;rw[ag];exact h
  refine bk.mk ad i bP rfl aS ?_;refine aK.mk _ (bu _) ?_;refine aJ.mk (λaf=>?_) (λaf=>?_);·refine bc.mk _ (cF (i:=i) (by omega)) ?_;refine⟨i+1,⟨⟨by omega,next ?_⟩,by omega⟩,.refl,ko,.cons rfl (.cons rfl .nil)⟩;rw[show(!decide (t.ns[i].k=3))=true from af];rfl
  ·refine bs.Xl aU rfl (by simp) rfl rfl rfl rfl (λw=>Hg w) (l:=bE g.ds) (g:=h9) rfl rfl (.inl EC) ?_;refine aJ.mk (λaP=>?_) (λaP=>?_)
   ·refine⟨_,_,.refl,iL,.inl ⟨?_,rfl,rfl⟩⟩;have bq:tb (bE g.ds) t.ns=false:=by
     rw[tb,Ks];refine⟨_,gW,?_⟩;have bj:(eB t.ns[i].t (bE g.ds)).isSome=false:=by simpa using aP
     rw[bj,show(!decide (t.ns[i].k=3))=false from af];simp
    simp[Am,bq]
   ·refine bc.mk _ (cF (i:=i) (by omega)) ?_;refine⟨i+1,⟨⟨by omega,next ?_⟩,by omega⟩,.refl,ko,.cons rfl (.cons rfl .nil)⟩;have bj:(eB t.ns[i].t (bE g.ds)).isSome=true:=by simpa using aP
    rw[bj];simp
 have cm:i=t.n:=by have:¬ (i:Int)<(t.n:Int):=cx h;omega
 rw[fq (by omega)]at sL;have ee:tb (bE g.ds) t.ns=true:=gh.2 sL;have ED:=XB ee;rw[gB,<-r7]at ED;refine a0.mk M0 [] _ perm_nil (Xt dZ ai EC (ld.mono iL) ED) ?_;rintro v ie kq -⟨rfl,b,rfl,rfl⟩;rw[dX];exact⟨_,_,.refl,iL,.inr ⟨_,b,by rw[Am,iX,ai,ee];rfl,rfl,rfl⟩⟩
structure vT(g:dn):Prop where
 n:g.ds.length=g.n
 right:∀ d∈g.ds,right d.t=true
 named:∀ d∈g.ds,tb (bE g.ds) d.t.ns=true
def Lk(aw:g.ds.length=g.n)(h:gk a1 g=0):vT g:=by refine⟨aw,λd ag=>?_,ahU h⟩;have:=gh.1 (ahV h) d ag;simp only[normal,cp]at this;exact this.2.1
def ofM(b6 h9 en gK b1:Nat)(g:dn)(l:List aY):List aI:=[⟨b6,.cells #[.map (some h9)] 155 (0,0)⟩,⟨en,.cells #[.slice (some ⟨gK,0,none⟩) g.n g.n] 234 (0,0)⟩,fR gK l,⟨b1,.cells #[.slice g.a g.n g.c] 24 (0,0)⟩]
def HC(a b c d:α):[a,b,c,d].Perm ([c]++[a,b,d]):=qd (l₁:=[a,b]) (l₂:=[d])
def ahX(x a b c d:α):[x,a,b,c,d].Perm ([c]++[x,a,b,d]):=qd (l₁:=[x,a,b]) (l₂:=[d])
def Ll{b:Nat}{f:aY}(a2:(⟨b,.cells f.cells.toArray 293 (0,0)⟩:aI)∈M):cq I M (⟨b,0,none⟩:Addr) 3 f.cells:=⟨rfl,_,_,_,.inr ⟨_,a2,rfl,rfl⟩,rfl,rfl⟩
def XE{l:List aY}{i:Nat}(hi:i<l.length){x:aY}:Nat.ble (0+i*3+x.cells.length) (l.flatMap aY.cells).length=true:=by rw[nW,Cp,aY.de];omega
def cz.to{a:Addr}{K:List aI->Prop}(a8 post:List aI)(cs:Array Value)(T:Nat)(a2:M=a8++⟨a.block,.cells cs T (0,0)⟩::post)(ar:a.spot=none)(ah:Nat.ble (a.off+vs.length) cs.size=true)(U:gU vs=true)(cs':List Value)(he:bK cs.toList a.off vs=cs')(k:K (a8++⟨a.block,.cells cs'.toArray T (0,0)⟩::post)):cz M a vs K:=
 ⟨a8,post,cs,T,a2,ar,b0 ah,U,by rw[he];exact k⟩
def ahY(aA:g.ok I)(hm:vT g){b6 en gK b1:Nat}(EC:I h9=some (jD (bE g.ds))){dJ:List aY}(DN:uF g.ds dJ) :
  Spec Tryz.prog 207 [ptr b1,ptr b6,ptr en] I (ofM b6 h9 en gK b1 g dJ) λv I' M'=>v=.bool (decide (n3 (bE g.ds) 0 g.ds dJ≠dJ))/\I'=I/\M'=ofM b6 h9 en gK b1 g (n3 (bE g.ds) 0 g.ds dJ):=by
 refine b4 [] aU Tryz.func207 rfl rfl rfl ?_;intro B ao;have gB:=aA.n;have ig:=aA.bg.cap;have ahZ:∀ {M:List aI},(⟨b1,.cells #[.slice g.a g.n g.c] 24 (0,0)⟩:aI)∈M->cq I M ((⟨b1,0,none⟩:Addr).add 0) 1 [.slice g.a g.n g.c]:=λa2=>ew (cs:=[.slice g.a g.n g.c]) (k:=0) (n:=1) a2 (by simp);have ah0:∀ {M:List aI},(⟨b6,.cells #[.map (some h9)] 155 (0,0)⟩:aI)∈M->cq I M (⟨b6,0,none⟩:Addr) 1 [.map (some h9)]:=λa2=>⟨rfl,_,_,_,.inr ⟨_,a2,rfl,rfl⟩,rfl,rfl⟩;have HD:∀ {M:List aI},(⟨en,.cells #[.slice (some ⟨gK,0,none⟩) g.n g.n] 234 (0,0)⟩:aI)∈M->cq I M (⟨en,0,none⟩:Addr) 1 [.slice (some ⟨gK,0,none⟩) g.n g.n]:=λa2=>⟨rfl,_,_,_,.inr ⟨_,a2,rfl,rfl⟩,rfl,rfl⟩;refine aK.mk _ (ahZ (by simp[ofM])) ?_;refine dG.inv (ι:=Nat×List aY) (λx=>{ bx:=[(0,.val (ptr b1)),(1,.val (ptr b6)),(2,.val (ptr en)),(4,.val (.bool (decide (x.2≠dJ)))),(9,.val (.slice g.a g.n g.c)),(10,.val (.int .i64 g.n)),(11,.val (.int .i64 x.1))],c2:=I,du:=ofM b6 h9 en gK b1 g x.2 }) (λx=>x.1<=g.n/\uF g.ds x.2/\eW dJ x.2/\n3 (bE g.ds) 0 g.ds dJ=n3 (bE g.ds) x.1 (g.ds.drop x.1) x.2) (λx=>g.n-x.1) ?_ ?_
 ·refine⟨(0,dJ),⟨bw _,DN,eW.refl _,rfl⟩,.refl,.cons .refl (.cons .refl (.cons .refl (.cons ?_ (f')))),.nil⟩;exact Le (by simp)
 rintro⟨i,l⟩⟨hi,kQ,bn,kR⟩;simp only at hi kQ bn kR;have tS:=kQ.len;refine aJ.mk (λh=>?_) (λh=>?_)
 rotate_left
 ·have cm:i=g.n:=by have:¬ (i:Int)<(g.n:Int):=cx h;omega
  rw[jT (by omega),n3]at kR;exact⟨_,_,.refl,by rw[kR],rfl,by rw[kR]⟩
 have aS:i<g.n:=by have:(i:Int)<(g.n:Int):=bS h;omega
 have b':i<g.ds.length:=by omega
 have eP:i<l.length:=by omega
 obtain⟨ad,bP,bu⟩:=aA.bg.row bI.de aS b';have eE:=cC b';have ag:=aA.ds _ eE;have ai:=hm.right _ eE;have ED:=XB (hm.named _ eE);rw[show g.ds.length=l.length from tS.symm]at ED;obtain⟨An,qx⟩:=kQ.step b';have yY:n3 (bE g.ds) 0 g.ds dJ=n3 (bE g.ds) (i+1) (g.ds.drop (i+1)) (l.set i (n2 (bE g.ds) l g.ds[i])):=by rw[kR,e8 b',n3]
 have HE:n2 (bE g.ds) l g.ds[i]=(eg (bE g.ds) l g.ds[i].t.ns []).getD g.ds[i].t.bF.toNat b8:=rfl;generalize n2 (bE g.ds) l g.ds[i]=f at An qx yY HE;generalize g.ds[i]=d at bu ag ai ED HE;have ha:=yC ai;have k':=ag.t.n;have ua:=Hx (bE g.ds) l d.t.ns [];simp only[ih,dz]at ua;have ek:d.t.bF.toNat<(eg (bE g.ds) l d.t.ns []).length:=by omega
 have tT:(eg (bE g.ds) l d.t.ns [])[d.t.bF.toNat]=f:=by rw[HE];simp[cS,ek]
 have PM:=Xt (M0:=[fR gK l]) (ln:=l.length) (lc:=g.n) ag.t ai EC (Lj (I:=I) (gI.2 rfl)) ED;rw[show l.length=g.n by omega]at PM;refine bk.mk ad i bP rfl aS ?_;refine aK.mk _ (bu _) ?_;have ah1:l.getD i b8=l[i]:=by simp[cS,eP]
 have more:(!decide (f=l[i]))=true->decide (l.set i f≠dJ)=true:=λh=>by
  have bH:f≠l[i]:=by simpa using h
  rw[e5];intro e;have aF:l.set i f=l:=by refine eW.antisymm ?_ qx;rw[e];exact bn
  have af:=HA l i i f eP;rw[aF,cG rfl,ah1]at af;exact bH af.symm
 have same:(!decide (f=l[i]))=false->l.set i f=l:=λh=>by
  have he:f=l[i]:=by simpa using h
  rw[he];exact List.set_getElem_self eP
 refine c4.draw aU rfl rfl rfl ?_;refine aK.mk _ (ah0 (by simp[ofM])) ?_;refine aK.mk _ (HD (by simp[ofM])) ?_;refine⟨?_,?_⟩
 ·refine g7.pV [fR gK l] [⟨b6,.cells #[.map (some h9)] 155 (0,0)⟩,⟨en,.cells #[.slice (some ⟨gK,0,none⟩) g.n g.n] 234 (0,0)⟩,⟨b1,.cells #[.slice g.a g.n g.c] 24 (0,0)⟩] _ (HC ..) PM (λv I' M' h x ab=>by obtain⟨-,b,-,rfl⟩:=h;exact .tail _ ab) ?_;rintro v fE ey -⟨rfl,b,rfl,rfl⟩;refine bk.mk ⟨b,0,none⟩ d.t.bF.toNat rfl (by omega) (by omega) ?_;refine aK.mk _ (Ez (.head _) ek) ?_;rw[tT];refine cv.mk λb7 Lm PN=>?_;refine cz.to [] [fR b (eg (bE g.ds) l d.t.ns []),fR gK l,⟨b6,.cells #[.map (some h9)] 155 (0,0)⟩,⟨en,.cells #[.slice (some ⟨gK,0,none⟩) g.n g.n] 234 (0,0)⟩,⟨b1,.cells #[.slice g.a g.n g.c] 24 (0,0)⟩] _ _ rfl rfl rfl rfl f.cells rfl ?_;refine c4.draw aU rfl rfl rfl ?_;refine aK.mk f.cells (Ll (by simp)) ?_;refine aK.mk _ (HD (by simp)) ?_;refine bk.mk ⟨gK,0,none⟩ i rfl rfl aS ?_;refine aK.mk _ (Ez (by simp) eP) ?_;refine fM.Xg (p:=f) (q:=l[i]) ?_;refine aJ.mk (λh=>?_) (λh=>?_)
  ·refine aK.mk _ (HD (by simp)) ?_;refine aK.mk f.cells (Ll (by simp)) ?_;refine bk.mk ⟨gK,0,none⟩ i rfl rfl aS ?_;refine cz.jl [(⟨b7,.cells f.cells.toArray 293 (0,0)⟩:aI),fR b (eg (bE g.ds) l d.t.ns [])] [⟨b6,.cells #[.map (some h9)] 155 (0,0)⟩,⟨en,.cells #[.slice (some ⟨gK,0,none⟩) g.n g.n] 234 (0,0)⟩,⟨b1,.cells #[.slice g.a g.n g.c] 24 (0,0)⟩] (l.flatMap aY.cells) _ rfl (XE eP) rfl ((l.set i f).flatMap aY.cells) (by rw[dz];exact PE l i eP f) ?_;refine bc.mk _ (cF (i:=i) (by omega)) ?_;refine⟨(i+1,l.set i f),⟨⟨by simp only;omega,An,bn.trans qx,yY⟩,by simp only;omega⟩,.sub (M1:=[fR gK (l.set i f),⟨b6,.cells #[.map (some h9)] 155 (0,0)⟩,⟨en,.cells #[.slice (some ⟨gK,0,none⟩) g.n g.n] 234 (0,0)⟩,⟨b1,.cells #[.slice g.a g.n g.c] 24 (0,0)⟩]) (by exact .cons _ (.cons _ (.refl _))) (.perm (HC ..).symm .refl),.cons .refl (.cons .refl (.cons .refl (.cons (Le (more h).symm) (f')))),.nil⟩
  ·have he:l.set i f=l:=same h;rw[he]at yY;refine bc.mk _ (cF (i:=i) (by omega)) ?_;exact⟨(i+1,l),⟨⟨by simp only;omega,kQ,bn,yY⟩,by simp only;omega⟩,.sub (M1:=[fR gK l,⟨b6,.cells #[.map (some h9)] 155 (0,0)⟩,⟨en,.cells #[.slice (some ⟨gK,0,none⟩) g.n g.n] 234 (0,0)⟩,⟨b1,.cells #[.slice g.a g.n g.c] 24 (0,0)⟩]) (by exact .cons _ (.cons _ (.refl _))) (.perm (HC ..).symm .refl),ko,.nil⟩
 ·refine cv.mk λb7 Lm PN=>?_;refine g7.pV [fR gK l] [(⟨b7,.cells b8.cells.toArray 293 (0,0)⟩:aI),⟨b6,.cells #[.map (some h9)] 155 (0,0)⟩,⟨en,.cells #[.slice (some ⟨gK,0,none⟩) g.n g.n] 234 (0,0)⟩,⟨b1,.cells #[.slice g.a g.n g.c] 24 (0,0)⟩] _ (ahX ..) PM (λv I' M' h x ab=>by obtain⟨-,b,-,rfl⟩:=h;exact .tail _ ab) ?_;rintro v fE ey -⟨rfl,b,rfl,rfl⟩;refine bk.mk ⟨b,0,none⟩ d.t.bF.toNat rfl (by omega) (by omega) ?_;refine aK.mk _ (Ez (.head _) ek) ?_;rw[tT];refine cz.to [fR b (eg (bE g.ds) l d.t.ns []),fR gK l] [⟨b6,.cells #[.map (some h9)] 155 (0,0)⟩,⟨en,.cells #[.slice (some ⟨gK,0,none⟩) g.n g.n] 234 (0,0)⟩,⟨b1,.cells #[.slice g.a g.n g.c] 24 (0,0)⟩] _ _ rfl rfl rfl rfl f.cells rfl ?_;refine c4.draw aU rfl rfl rfl ?_;refine aK.mk f.cells (Ll (by simp)) ?_;refine aK.mk _ (HD (by simp)) ?_;refine bk.mk ⟨gK,0,none⟩ i rfl rfl aS ?_;refine aK.mk _ (Ez (by simp) eP) ?_;refine fM.Xg (p:=f) (q:=l[i]) ?_;refine aJ.mk (λh=>?_) (λh=>?_)
  ·refine aK.mk _ (HD (by simp)) ?_;refine aK.mk f.cells (Ll (by simp)) ?_;refine bk.mk ⟨gK,0,none⟩ i rfl rfl aS ?_;refine cz.jl [fR b (eg (bE g.ds) l d.t.ns [])] [(⟨b7,.cells f.cells.toArray 293 (0,0)⟩:aI),⟨b6,.cells #[.map (some h9)] 155 (0,0)⟩,⟨en,.cells #[.slice (some ⟨gK,0,none⟩) g.n g.n] 234 (0,0)⟩,⟨b1,.cells #[.slice g.a g.n g.c] 24 (0,0)⟩] (l.flatMap aY.cells) _ rfl (XE eP) rfl ((l.set i f).flatMap aY.cells) (by rw[dz];exact PE l i eP f) ?_;refine bc.mk _ (cF (i:=i) (by omega)) ?_;refine⟨(i+1,l.set i f),⟨⟨by simp only;omega,An,bn.trans qx,yY⟩,by simp only;omega⟩,.sub (M1:=[fR gK (l.set i f),⟨b6,.cells #[.map (some h9)] 155 (0,0)⟩,⟨en,.cells #[.slice (some ⟨gK,0,none⟩) g.n g.n] 234 (0,0)⟩,⟨b1,.cells #[.slice g.a g.n g.c] 24 (0,0)⟩]) (by exact .cons _ (.cons_cons _ (.cons _ (.refl _)))) (.perm (HC ..).symm .refl),.cons .refl (.cons .refl (.cons .refl (.cons (Le (more h).symm) (f')))),.nil⟩
  ·have he:l.set i f=l:=same h;rw[he]at yY;refine bc.mk _ (cF (i:=i) (by omega)) ?_;exact⟨(i+1,l),⟨⟨by simp only;omega,kQ,bn,yY⟩,by simp only;omega⟩,.sub (M1:=[fR gK l,⟨b6,.cells #[.map (some h9)] 155 (0,0)⟩,⟨en,.cells #[.slice (some ⟨gK,0,none⟩) g.n g.n] 234 (0,0)⟩,⟨b1,.cells #[.slice g.a g.n g.c] 24 (0,0)⟩]) (by exact .cons _ (.cons_cons _ (.cons _ (.refl _)))) (.perm (HC ..).symm .refl),ko,.nil⟩
def ah2(bM:hU I a1)(aA:g.ok I):Spec Tryz.prog 162 [g.val] I [] λv I' M'=>(∀ b o,I b=some o->I' b=some o) /\
  ((gk a1 g≠0/\v=.tuple #[.slice none 0 0,.int .i64 (gk a1 g)]/\M'=[])\/(gk a1 g=0/\∃ b l,v=.tuple #[.slice (some ⟨b,0,none⟩) g.n g.n,.int .i64 0]/\M'=[fR b l]/\qY g.ds l)):=by
 refine b4 [1,5,6] aU Tryz.func162 rfl rfl rfl ?_;intro B ao;have gB:=aA.n;have ig:=aA.bg.cap;refine cv.mk λb1 oA PO=>?_;refine aK.mk [.slice g.a g.n g.c] ⟨rfl,_,_,_,.inr ⟨_,.head _,rfl,rfl⟩,rfl,rfl⟩ ?_;refine a0.mk [] [⟨b1,.cells #[.slice g.a g.n g.c] 24 (0,0)⟩] _ (.refl _) (Wx bM aA) ?_;rintro v dO M1 -⟨rfl,dd,rfl⟩;refine aJ.mk (λh=>?_) (λh=>?_)
 ·have hm:gk a1 g≠0:=by simpa using h
  exact⟨_,_,.sub (fw _) .refl,dd,.inl ⟨hm,rfl,rfl⟩⟩
 have hm:gk a1 g=0:=by simpa using h
 have a2:=Lk gB hm;refine aK.mk _ (ew (b:=b1) (cs:=[.slice g.a g.n g.c]) (k:=0) (n:=1) (T:=24) (.head _) (by simp)) ?_;refine nE.mk g.n g.n rfl rfl (bY _) (by show 3*g.n<=_;omega) (by omega) ?_;refine cv.mk λgK qJ asw=>?_;have e:rowOf b8.cells (g.n*3)=(List.replicate g.ds.length b8).flatMap aY.cells:=by rw[gB];exact Xs g.n
 refine cv.mk λen Hh KS=>?_;refine cz.to [] _ _ _ rfl rfl rfl rfl [.slice (some ⟨gK,0,none⟩) g.n g.n] rfl ?_;refine aK.mk [.slice g.a g.n g.c] ⟨rfl,_,_,_,.inr ⟨_,.tail _ (.tail _ (.head _)),rfl,rfl⟩,rfl,rfl⟩ ?_;refine a0.mk [] _ _ (.refl _) (Xm (aA.mono dd)) ?_;rintro v fE ey -⟨iL,rfl,h9,rfl,EC⟩;refine cv.mk λb6 KL Wn=>?_;refine cz.to [] _ _ _ rfl rfl rfl rfl [.map (some h9)] rfl ?_;refine dG.inv (ι:=List aY) (λl=>{ bx:=[(5,.val (ptr en)),(7,.val (.func (.func 207) #[] #[ptr b1,ptr b6,ptr en]))],c2:=fE,du:=ofM b6 h9 en gK b1 g l }) (uF g.ds) Al ?_ ?_
 ·refine⟨List.replicate g.ds.length b8,.start g.ds,?_,yq,.nil⟩;simp only[ofM,fR];rw[<-e];exact .refl
 intro l ap;refine a0.mk (ofM b6 h9 en gK b1 g l) [] _ (.refl _) (ahY ((aA.mono dd).mono iL) a2 EC ap) ?_;rintro v ie kq -⟨rfl,rfl,rfl⟩;obtain⟨i',gw,-⟩:=PJ g.ds [] rfl ap;refine aJ.mk (λh=>?_) (λh=>?_)
 ·exact⟨_,⟨i',ahS gw (bS h)⟩,.refl,yq,.nil⟩
 ·have aC:n3 (bE g.ds) 0 g.ds l=l:=by have:=cx h;exact Classical.not_not.1 this
  rw[aC];refine aK.mk [.slice (some ⟨gK,0,none⟩) g.n g.n] ⟨rfl,_,_,_,.inr ⟨_,.tail _ (.head _),rfl,rfl⟩,rfl,rfl⟩ ?_;refine⟨ie,[fR gK l],.sub (.cons _ (.cons _ (.cons_cons _ (fw _)))) .refl,λb o h=>iL _ _ (dd _ _ h),.inr ⟨hm,gK,l,rfl,rfl,ap.done aC⟩⟩
def bN.dI(t:bN):bN:=⟨t.ns.map aM.dI,none,t.n,0,t.bF⟩
def bI.dI(d:bI):bI:=⟨d.name,d.t.dI⟩
def dn.dI(g:dn):dn:=⟨g.ds.map bI.dI,none,g.n,0⟩
def XF:∀ (ds:List aM) (i:Nat) (s:List Bool),jB i (ds.map aM.dI) s=jB i ds s
 |[],i,s=>rfl| d::ds,i,s=>by have h:∀ ct,jB (i+1) (ds.map aM.dI) ct=jB (i+1) ds ct:=λct=>XF ds (i+1) ct;rw[dv,jB,jB];simp only[h];rfl
def ah3(t:bN):right t.dI=right t:=by unfold right bN.dI;simp only[XF,cD]
def XG{α:Type}{z:α}{f g:aM->(Int->α)->α}(h:∀ d q,f d.dI q=g d q):∀ (ds:List aM) (aZ:List α),l4 z f (ds.map aM.dI) aZ=l4 z g ds aZ
 |[],aZ=>rfl| d::ds,aZ=>by rw[dv,l4,l4,h,XG h ds]
def vU(l:List aM):bN:=⟨l,none,l.length,0,(l.length:Int)-1⟩
structure XH(I:aR)(t:bN)(l:List aM):Prop where
 ok:t.ok I
 dI:t.ns.map aM.dI=l
 bF:t.bF=(l.length:Int)-1
def XH.len{t:bN}{l:List aM}(h:XH I t l):t.n=l.length:=by rw[<-h.ok.n,<-h.dI,cD]
def r8(ns:List aM):List Int:=ns.flatMap (·.ax)
def n4(l:List Int):Prop:=l.Pairwise (·≠·)
def EE(s:List Bool)(l:List Int):Prop:=∀ j,s.getD j false=true ↔ ((j:Int)∈l/\j<s.length)
def XI{i:Nat}:∀ {ks seen:List Int} {s:List Bool},i<=s.length->EE s seen->n4 seen -> ((∃ ct,k7 i ks s=some ct) ↔ ((∀ k∈ks,0<=k/\k<i)/\n4 (seen++ks)))/\∀ ct,k7 i ks s=some ct->ct.length=s.length/\EE ct (seen++ks)
 |[],seen,s,hi,hm,ag=>by refine⟨⟨λ_=>⟨λk ae=>by(cases ae),by simpa using ag⟩,λ_=>⟨s,rfl⟩⟩,λct h=>?_⟩;simp only[k7,kd]at h;subst h;exact⟨rfl,by simpa using hm⟩
 |k::ks,seen,s,hi,hm,ag=>by
  unfold k7;cases ah:decide (k<0)||(decide ((i:Int)<=k)||s.getD k.toNat false)with
  |true=>
   refine⟨⟨λ⟨ct,h⟩=>(by cases h),λ⟨U,aa⟩=>?_⟩,λct h=>by cases h⟩;exfalso;have af:=U k (.head _);simp only[kM,e5]at ah;rcases ah with ah | ah | ah;·omega
   ·omega
   ·have:=(hm _).1 ah;rw[zV af.1]at this;exact(El.1 aa).2.2 k this.1 k (.head _) rfl
  |false=>
   simp only[o6,ow]at ah;obtain⟨b1,cb,c9⟩:=ah;have ae:k.toNat<s.length:=by omega
   have fm:k ∉ seen:=λh=>by have:=(hm k.toNat).2 ⟨by rw[zV (by omega)];exact h,ae⟩;rw[c9]at this;cases this
   have qH:EE (s.set k.toNat true) (seen++[k]):=λj=>by
    have:=hm j;simp only[cS,o8,uv,dV,gI]at this |-;by_cases e:k.toNat=j;·subst e;rw[cG rfl,cG ae];simp only[ib,true_iff];exact⟨.inr (by omega),ae⟩
    ·rw[ca e,this];constructor
     ·rintro⟨U,aa⟩;exact⟨.inl U,aa⟩
     ·rintro⟨U | U,aa⟩
      ·exact⟨U,aa⟩
      ·omega
   have iI:n4 (seen++[k]):=El.2 ⟨ag,by simp,λa aE b ah e=>by
    simp only[gI]at ah;subst ah;subst e;exact fm aE⟩
   have a7:=XI (i:=i) (ks:=ks) (seen:=seen++[k]) (s:=s.set k.toNat true) (by simpa using hi) qH iI;simp only[bf];rw[fA,Hn]at a7;refine⟨a7.1.trans ⟨λ⟨U,aa⟩=>⟨λx ab=>?_,aa⟩,λ⟨U,aa⟩=>⟨λx ab=>U x (.tail _ ab),aa⟩⟩,λct h=>?_⟩
   ·rcases eL.1 ab with rfl | ab
    ·omega
    ·exact U x ab
   ·have:=a7.2 ct h;simpa using this
def XJ:∀ {ds:List aM} {i:Nat} {seen:List Int} {s:List Bool},i+ds.length<=s.length->EE s seen->n4 seen -> ((∃ ct,jB i ds s=some ct) ↔ ((∀ j (h:j<ds.length),fits ds[j] ds[j].ax.length=true/\∀ k∈ds[j].ax,0<=k/\k<i+j)/\n4 (seen++r8 ds)))/\∀ ct,jB i ds s=some ct->ct.length=s.length/\EE ct (seen++r8 ds)
 |[],i,seen,s,hi,hm,ag=>by refine⟨⟨λ_=>⟨λj aj=>by simp at aj,by simpa[r8]using ag⟩,λ_=>⟨s,rfl⟩⟩,λct h=>?_⟩;simp only[jB,kd]at h;subst h;exact⟨rfl,by simpa[r8]using hm⟩
 |d::ds,i,seen,s,hi,hm,ag=>by
  unfold jB;have ae:=XI (i:=i) (ks:=d.ax) (by simp at hi;omega) hm ag;have ej:r8 (d::ds)=d.ax++r8 ds:=rfl;cases aC:fits d d.ax.length with
  |false=>refine⟨⟨λ⟨ct,h⟩=>(by cases h),λ⟨U,aa⟩=>?_⟩,λct h=>by cases h⟩;have:=(U 0 (by simp)).1;simp only[vt]at this;rw[aC]at this;cases this
  |true=>
   simp only[bh];cases ay:k7 i d.ax s with
   |none=>
    refine⟨⟨λ⟨ct,h⟩=>(by cases h),λ⟨U,aa⟩=>?_⟩,λct h=>by cases h⟩;exfalso;have:∃ ct,k7 i d.ax s=some ct:=ae.1.2 ⟨λk ae=>by
     have:=(U 0 (by simp)).2 k ae;omega,by
     rw[ej,<-fA]at aa;exact(El.1 aa).1⟩
    obtain⟨ct,h⟩:=this;rw[ay]at h;cases h
   |some s1=>
    obtain⟨r9,dY⟩:=ae.2 s1 ay;obtain⟨i',d1⟩:=ae.1.1 ⟨s1,ay⟩;have a7:=XJ (ds:=ds) (i:=i+1) (seen:=seen++d.ax) (s:=s1) (by simp at hi;omega) dY d1;rw[fA,<-ej]at a7;simp only;refine⟨a7.1.trans ⟨λ⟨U,aa⟩=>⟨λj aj=>?_,aa⟩,λ⟨U,aa⟩=>⟨λj aj=>?_,aa⟩⟩,λct h=>?_⟩
    ·cases j with
     |zero=>exact⟨aC,λk ae=>by have:=i' k ae;omega⟩| succ j=>have:=U j (by simpa using aj);refine⟨this.1,λk ae=>?_⟩;have:=this.2 k ae;omega
    ·have:=U (j+1) (by simpa using aj);refine⟨this.1,λk ae=>?_⟩;have:=this.2 k ae;omega
    ·have:=a7.2 ct h;exact⟨this.1.trans r9,this.2⟩
def ah4(n:Nat):EE (List.replicate n false) []:=λj=>by
 by_cases h:j<n<;>simp[cS,KW,h]
structure tc(t:bN):Prop where
 bF:0<=t.bF/\t.bF<t.ns.length
 fits:∀ j (h:j<t.ns.length),fits t.ns[j] t.ns[j].ax.length=true
 ax:∀ j (h:j<t.ns.length),∀ k∈t.ns[j].ax,0<=k/\k<j
 diff:n4 (r8 t.ns)
 all:∀ j:Nat,j<t.ns.length->((j:Int)∈r8 t.ns ↔ (j:Int)≠t.bF)
def j2{t:bN}:right t=true ↔ tc t:=by
 have h:=XJ (ds:=t.ns) (i:=0) (seen:=[]) (s:=List.replicate t.ns.length false) (by simp) (ah4 _) (by simp[n4]);simp only[kN,dz,zU]at h;unfold right;constructor
 ·intro ai;simp only[cp,e5]at ai;obtain⟨i',gw,im⟩:=ai;split at im
  ·rename_i s ar;obtain⟨fa,e6⟩:=h.1.1 ⟨s,ar⟩;obtain⟨dY,m2⟩:=h.2 s ar;refine⟨⟨i',gw⟩,λj aj=>(fa j aj).1,λj aj k ae=>(by have:=(fa j aj).2 k ae;omega),e6,λj aj=>?_⟩;have ah:(s.getD j false == decide (((0+j:Nat):Int)=t.bF))=false:=by
    cases ah:(s.getD j false == decide (((0+j:Nat):Int)=t.bF))with
    |false=>rfl| true=>have:=Pw (by omega) ah;rw[this]at im;cases im
   rw[dz]at ah;have hm:=m2 j;constructor;·intro ab e;have:=hm.2 ⟨ab,by omega⟩;rw[this,fr e]at ah;cases ah
   ·intro bH;rw[c0 bH]at ah;have:s.getD j false=true:=by
     revert ah;cases s.getD j false<;>simp
    exact(hm.1 this).1
  ·cases im
 ·intro ai;obtain⟨s,ar⟩:=h.1.2 ⟨λj aj=>⟨ai.fits j aj,λk ae=>by have:=ai.ax j aj k ae;omega⟩,ai.diff⟩;obtain⟨dY,m2⟩:=h.2 s ar;rw[ar];simp only[cp,e5];refine⟨ai.bF.1,ai.bF.2,W9 λj aj=>?_⟩;rw[dz];have aE:=ai.all j (by omega);have hm:=m2 j;by_cases e:(j:Int)=t.bF
  ·have aC:s.getD j false=false:=by
    cases ah:s.getD j false with
    |false=>rfl| true=>exact absurd e (aE.1 (hm.1 ah).1)
   rw[aC,fr e];rfl
  ·have:=hm.2 ⟨aE.2 e,by omega⟩;rw[this,c0 e];rfl
def tc.node{t:bN}(ai:tc t){j:Nat}(aj:j<t.ns.length){k:Int}(ae:k∈(nodeAt t.ns j).ax):0<=k/\k<j:=by rw[ij aj]at ae;exact ai.ax j aj k ae
def tc.two{t:bN}(ai:tc t){i j:Nat}(hi:i<t.ns.length)(aj:j<t.ns.length)(bH:i≠j){k:Int}(U:k∈(nodeAt t.ns i).ax)(aa:k∈(nodeAt t.ns j).ax):False:=by
 rw[ij hi]at U;rw[ij aj]at aa;have:=(KX.1 ai.diff).2;rw[WC]at this;rcases Nat.lt_or_gt_of_ne bH with h | h
 ·exact this i j hi aj h k U k aa rfl
 ·exact this j i aj hi h k aa k U rfl
def tc.XK{t:bN}(ai:tc t){j:Nat}(aj:j<t.ns.length):n4 (nodeAt t.ns j).ax:=by rw[ij aj];exact(KX.1 ai.diff).1 _ (cC aj)
def EF(ns:List aM):Nat->Int->List Int
 |0,_=>[]| f+1,n=>(nodeAt ns n.toNat).ax.flatMap (EF ns f)++[n]
def cV(ns:List aM)(n:Int):List Int:=EF ns (n.toNat+1) n
def PP{α β:Type}{f g:α->List β}:∀ {l:List α},(∀ x∈l,f x=g x)->l.flatMap f=l.flatMap g
 |[],_=>rfl| a::l,h=>by rw[nG,nG,h a (.head _),PP λx ab=>h x (.tail _ ab)]
section
variable{t:bN}(ai:tc t)
include ai
def ah5:∀ (f j:Nat),j<t.ns.length->j<f->EF t.ns f j=cV t.ns j:=by
 intro f
 induction f using Nat.strongRecOn with
 |_ f a7=>
  intro j aj aC
  match f,aC,a7 with
  |f+1,aC,a7=>unfold cV;rw[EF,EF];congr 1;refine PP λk ae=>?_;obtain⟨ao,U⟩:=ai.node aj ae;obtain⟨k,rfl⟩:=g' ao;have az:=a7 f (by omega) k (by omega) (by omega);have aF:=a7 j (by omega) k (by omega) (by omega);exact az.trans aF.symm
def r'{j:Nat}(aj:j<t.ns.length):cV t.ns j=(nodeAt t.ns j).ax.flatMap (cV t.ns)++[(j:Int)]:=by unfold cV;rw[EF];congr 1;refine PP λk ae=>?_;obtain⟨ao,U⟩:=ai.node aj ae;obtain⟨k,rfl⟩:=g' ao;exact ah5 ai _ k (by omega) (by omega)
def vV:∀ (j:Nat),j<t.ns.length->∀ x∈cV t.ns j,(0<=x/\x<=j)/\(x=j\/∃ y:Nat,(y:Int)∈cV t.ns j/\y<t.ns.length/\x∈(nodeAt t.ns y).ax):=by
 intro j
 induction j using Nat.strongRecOn with
 |_ j a7=>
  intro aj x ab;rw[r' ai aj]at ab;rcases dV.1 ab with ab | ab
  ·obtain⟨k,ae,ab⟩:=uu.1 ab;obtain⟨ao,U⟩:=ai.node aj ae;obtain⟨k,rfl⟩:=g' ao;obtain⟨b,c⟩:=a7 k (by omega) (by omega) x ab;refine⟨by omega,.inr ?_⟩;rcases c with rfl | ⟨y,aH,w9,ah6⟩
   ·exact⟨j,by rw[r' ai aj];simp,aj,ae⟩
   ·exact⟨y,by rw[r' ai aj];exact dV.2 (.inl (uu.2 ⟨k,ae,aH⟩)),w9,ah6⟩
  ·simp only[gI]at ab;subst ab;exact⟨by omega,.inl rfl⟩
def ah7{j:Nat}(aj:j<t.ns.length){a b:Nat}(aE:(a:Int)∈(nodeAt t.ns j).ax)(ah:(b:Int)∈(nodeAt t.ns j).ax)(bH:a≠b):∀ (m:Nat) (x:Int),x∈cV t.ns a->x∈cV t.ns b->t.ns.length-x.toNat<=m->False:=by
 have U:=ai.node aj aE;have aa:=ai.node aj ah;intro m
 induction m with
 |zero=>intro x PQ m8 hm;have:=(vV ai a (by omega) x PQ).1;omega
 |succ m a7=>
  intro x PQ m8 hm;obtain⟨ba,ah8⟩:=vV ai a (by omega) x PQ;obtain⟨XL,XM⟩:=vV ai b (by omega) x m8;rcases ah8 with oN | ⟨PR,XN,PS,PT⟩
  ·rcases XM with Ao | ⟨PU,hb,PV,PW⟩
   ·omega
   ·have:=(vV ai b (by omega) PU hb).1;subst oN;exact ai.two aj PV (by omega) aE PW
  ·rcases XM with Ao | ⟨PU,hb,PV,PW⟩
   ·have:=(vV ai a (by omega) PR XN).1;subst Ao;exact ai.two aj PS (by omega) ah PT
   ·by_cases e:PR=PU
    ·subst e;have:=ai.node PS PT;exact a7 PR XN hb (by omega)
    ·exact ai.two PS PV e PT PW
def EG:∀ (j:Nat),j<t.ns.length->n4 (cV t.ns j):=by
 intro j
 induction j using Nat.strongRecOn with
 |_ j a7=>
  intro aj;rw[r' ai aj];have HF:=ai.XK aj;refine El.2 ⟨KX.2 ⟨λk ae=>?_,?_⟩,by simp,λx ab y aH=>?_⟩;·obtain⟨ao,U⟩:=ai.node aj ae;obtain⟨k,rfl⟩:=g' ao;exact a7 k (by omega) (by omega)
  ·refine HF.imp_of_mem ?_;intro a b aE ah bH x ab y aH e;subst e;obtain⟨ao,U⟩:=ai.node aj aE;obtain⟨aa,af⟩:=ai.node aj ah;obtain⟨a,rfl⟩:=g' ao;obtain⟨b,rfl⟩:=g' aa;exact ah7 ai aj aE ah (by intro e;subst e;exact bH rfl) _ x ab aH (bY _)
  ·simp only[gI]at aH;subst aH;obtain⟨k,ae,ab⟩:=uu.1 ab;obtain⟨ao,U⟩:=ai.node aj ae;obtain⟨k,rfl⟩:=g' ao;have:=(vV ai k (by omega) x ab).1;omega
def uG(ns:List aM)(l:List Int):Prop:=∀ i (h:i<l.length),∀ k∈(nodeAt ns (l[i]).toNat).ax,k∈l.take i
omit ai in
def uG.append{l m:List Int}(h:uG ns l)(be:uG ns m):uG ns (l++m):=by
 intro i hi k ae;by_cases ap:i<l.length
 ·rw[Ek ap]at ae;rw[DT (by omega)];exact h i ap k ae
 ·rw[Hl (by omega)]at ae;have:=be (i-l.length) (by simp at hi;omega) k ae;rw[Hp,fq (by omega)];exact dV.2 (.inr this)
omit ai in
def uG.flat{ns:List aM}{f:Int->List Int}:∀ {ks:List Int},(∀ k∈ks,uG ns (f k))->uG ns (ks.flatMap f)
 |[],_=>λi h=>by simp at h
 |k::ks,h=>by rw[nG];exact(h k (.head _)).append (uG.flat λx ab=>h x (.tail _ ab))
def XO{j:Nat}(aj:j<t.ns.length):(j:Int)∈cV t.ns j:=by rw[r' ai aj];simp
def HG:∀ (j:Nat),j<t.ns.length->uG t.ns (cV t.ns j):=by
 intro j
 induction j using Nat.strongRecOn with
 |_ j a7=>
  intro aj;have ae:∀ k∈(nodeAt t.ns j).ax,∃ q:Nat,k=q/\q<j:=λk ae=>by obtain⟨ao,U⟩:=ai.node aj ae;exact⟨k.toNat,by omega,by omega⟩
  have U:uG t.ns ((nodeAt t.ns j).ax.flatMap (cV t.ns)):=uG.flat λk jI=>by obtain⟨q,rfl,ay⟩:=ae k jI;exact a7 q ay (by omega)
  rw[r' ai aj];intro i hi k vW;by_cases ap:i<((nodeAt t.ns j).ax.flatMap (cV t.ns)).length;·rw[Ek ap]at vW;rw[DT (by omega)];exact U i ap k vW
  ·rw[Hl (by omega)]at vW;have e:i-((nodeAt t.ns j).ax.flatMap (cV t.ns)).length=0:=by simp only[cP,eQ,ih]at hi;omega
   simp only[e,vt,kH]at vW;rw[Hp,fq (by omega)];refine dV.2 (.inl (uu.2 ⟨k,vW,?_⟩));obtain⟨q,rfl,ay⟩:=ae k vW;exact XO ai (by omega)
def HH{j:Nat}(aj:j<t.ns.length):(cV t.ns j).getLast?=some (j:Int):=by rw[r' ai aj];simp
def PX:∀ (j:Nat),j<t.ns.length->(cV t.ns j).length=l7 t.ns j:=by
 intro j
 induction j using Nat.strongRecOn with
 |_ j a7=>
  intro aj;rw[r' ai aj,Ew (j2.2 ai) aj,<-ij aj];simp only[cP,List.length_flatMap,eQ,ih,gZ];have:(nodeAt t.ns j).ax.map (λa=>(cV t.ns a).length)=(nodeAt t.ns j).ax.map (l7 t.ns):=mA λk ae=>by obtain⟨ao,U⟩:=ai.node aj ae;obtain⟨k,rfl⟩:=g' ao;exact a7 k (by omega) (by omega)
  rw[this];omega
def XP:∀ (f:Nat) (todo b:List Int),(∀ k∈todo,0<=k/\k<t.ns.length)->(todo.map λn=>(cV t.ns n).length).sum<=f->yU t.ns f todo b=b++todo.reverse.flatMap (λn=>(cV t.ns n).reverse)
 |0,todo,b,ak,aC=>by
  rcases GR todo with h | ⟨r,p,h⟩;·subst h;simp[yU]
  ·subst h;obtain⟨ao,U⟩:=ak p (by simp);obtain⟨p,rfl⟩:=g' ao;have:=congrArg List.length (r' ai (j:=p) (by omega));simp at aC this;have aa:(cV t.ns (p:Int)).length=0:=by rw[aC.2];rfl
   omega
 |f+1,todo,b,ak,aC=>by
  rcases GR todo with h | ⟨r,p,h⟩;·subst h;rw[Xe];simp
  ·rw[List.concat_eq_append]at h;subst h;obtain⟨ao,U⟩:=ak p (by simp);obtain⟨p,rfl⟩:=g' ao;have aD:p<t.ns.length:=by omega
   have he:=r' ai aD;have ap:=congrArg List.length he;simp only[cP,List.length_flatMap,eQ,ih]at ap;have ls:∀ k∈r++(nodeAt t.ns p).ax,0<=k/\k<t.ns.length:=λk ae=>by
    rcases dV.1 ae with ae | ae;·exact ak k (by simp[ae])
    ·have:=ai.node aD ae;omega
   have wX:((r++(nodeAt t.ns p).ax).map λn=>(cV t.ns n).length).sum<=f:=by simp only[fi,Kt,dv,jh,pg,Ku]at aC |-;omega
   rw[Xf,kH,XP f _ _ ls wX];rw[Em,Em,ku,ku,OF,List.flatMap_singleton,he,Em,fA];congr 1;rw[<-fA];congr 1;simp[List.reverse_flatMap];rfl
def ah9{j:Nat}(aj:j<t.ns.length):(Co t.ns j).reverse=cV t.ns j:=by unfold Co;have U:=PX ai j aj;have aa:=Ex (j2.2 ai) t.ns.length j aj (by omega);rw[XP ai _ _ _ (λk ae=>by simp only[gI]at ae;omega) (by simp;omega)];simp
def ir(cH:List Int)(k:Int):Int:=(cH.idxOf k:Nat)
def mF(ns:List aM)(cH:List Int)(b:Int):aM:=(nodeAt ns b.toNat).hf ((nodeAt ns b.toNat).ax.map (ir cH))
omit ai in
def n4.idx{l:List Int}(h:n4 l){i:Nat}(hi:i<l.length):l.idxOf l[i]=i:=by
 have U:=Hk (cC hi);have aa:=Ho U;have af:=WC.1 h;rcases Nat.lt_trichotomy (l.idxOf l[i]) i with aP | aP | aP
 ·exact absurd aa (af _ _ U hi aP)
 ·exact aP
 ·exact absurd aa.symm (af _ _ hi U aP)
omit ai in
def n4.nodup{l:List Int}(h:n4 l){i j:Nat}(hi:i<l.length)(aj:j<l.length)(e:l[i]=l[j]):i=j:=by rw[<-h.idx hi,<-h.idx aj,e]
omit ai in
def sub_fold{cH:List Int}(ag:n4 cH)(aD:uG t.ns cH)(ak:∀ k∈cH,0<=k/\k<t.ns.length):∀ i,i<=cH.length->∃ P:List Int,(cH.take i).foldl (Ld t.ns) (List.replicate t.ns.length 0,[])=(P,(cH.take i).map (mF t.ns cH))/\P.length=t.ns.length/\∀ q (h:q<cH.length),q<i->P.getD cH[q].toNat 0=(q:Int)
 |0,_=>⟨List.replicate t.ns.length 0,rfl,by simp,λq h ay=>by omega⟩
 |i+1,hi=>by
  obtain⟨P,U,aa,af⟩:=sub_fold ag aD ak i (by omega);have eP:i<cH.length:=by omega
  have asx:=ak _ (cC eP);have key:∀ q (h:q<cH.length),q<i+1->(P.set cH[i].toNat (i:Nat)).getD cH[q].toNat 0=(q:Int):=λq h ay=>by
   have UU:=ak _ (cC h);by_cases e:q=i;·subst e;simp[cS,o8,show cH[q].toNat<P.length by omega]
   ·have bH:cH[i].toNat≠cH[q].toNat:=λbA=>e (ag.nodup h eP (by omega));have:=af q h (by omega);simp only[cS,o8]at this |-;rw[ca bH];exact this
  refine⟨P.set cH[i].toNat (i:Nat),?_,by simpa using aa,key⟩;rw[ho eP,En,U,fi];simp only[pP,Pg,Ld,cD,gr,pO (Nat.le_of_lt eP),dv,jh];have:mF t.ns cH cH[i]=(nodeAt t.ns cH[i].toNat).hf ((nodeAt t.ns cH[i].toNat).ax.map λk=>(P.set cH[i].toNat (i:Nat)).getD k.toNat 0):=by unfold mF;congr 1;refine mA λk ae=>?_;have hm:=aD i eP k ae;obtain⟨q,ay,e⟩:=nV hm;rw[gr]at ay;rw[Pe]at e;rw[<-e,key q (by omega) (by omega)];unfold ir;rw[ag.idx]
  rw[this]
def Ap{j:Nat}(aj:j<t.ns.length):xj t.ns j=(cV t.ns j).map (mF t.ns (cV t.ns j)):=by obtain⟨P,U,-,-⟩:=sub_fold (EG ai j aj) (HG ai j aj) (λk ae=>by have:=(vV ai j aj k ae).1;omega) (cV t.ns j).length (bY _);rw[N5]at U;unfold xj;rw[ah9 ai aj,U]
def XQ{j:Nat}(aj:j<t.ns.length):tc (vU (xj t.ns j)):=by
 have ag:=EG ai j aj;have aD:=HG ai j aj;have hm:=vV ai j aj;have n5:=HH ai aj;rw[Ap ai aj];generalize cV t.ns j=cH at *;have b3:0<cH.length:=by
  cases cH with
  |nil=>simp at n5| cons a l=>simp
 have qg:cH[cH.length-1]=(j:Int):=by rw[Hm,eR (by omega)]at n5;exact j0 n5
 have aw:∀ i (h:i<cH.length),cH[i].toNat<t.ns.length:=λi h=>by have:=(hm _ (cC h)).1;omega
 have ki:∀ i (h:i<cH.length),∀ k∈(nodeAt t.ns cH[i].toNat).ax,k∈cH/\cH.idxOf k<i:=λi h k ae=>by have:=aD i h k ae;refine⟨w6 this,?_⟩;obtain⟨q,ay,e⟩:=nV this;rw[gr]at ay;rw[Pe]at e;rw[<-e,ag.idx];omega
 have Ci:∀ a∈cH,∀ b∈cH,ir cH a=ir cH b->a=b:=λa aE b ah e=>by
  unfold ir at e;have bA:cH.idxOf a=cH.idxOf b:=by omega
  rw[<-Ho (Hk aE),<-Ho (Hk ah)];simp only[bA]
 have ej:r8 (cH.map (mF t.ns cH))=cH.flatMap λb=>(nodeAt t.ns b.toNat).ax.map (ir cH):=by unfold r8;rw[Eo];rfl
 have hV:∀ b∈cH,∀ k∈(nodeAt t.ns b.toNat).ax,k∈cH:=λb ah k ae=>by obtain⟨i,hi,rfl⟩:=nV ah;exact(ki i hi k ae).1
 refine⟨by simp[vU];omega,λi hi=>?_,λi hi k ae=>?_,?_,λi hi=>?_⟩
 ·have di:i<cH.length:=by simpa[vU]using hi
  have aC:=ai.fits _ (aw i di);rw[<-ij (aw i di)]at aC;simp only[vU,lA];have e:(mF t.ns cH cH[i]).ax.length=(nodeAt t.ns cH[i].toNat).ax.length:=by show((nodeAt t.ns cH[i].toNat).ax.map (ir cH)).length=_;rw[cD]
  rw[e];exact aC
 ·have di:i<cH.length:=by simpa[vU]using hi
  simp only[vU,lA]at ae;obtain⟨q,ay,rfl⟩:=dC.1 ae;have:=(ki i di q ay).2;unfold ir;omega
 ·show n4 (r8 (cH.map (mF t.ns cH)));rw[ej];refine KX.2 ⟨λb ah=>?_,?_⟩
  ·have gV:=(hm b ah).1;refine List.pairwise_map.2 ((ai.XK (j:=b.toNat) (by omega)).imp_of_mem ?_);intro x y ab aH bH e;exact bH (Ci x (hV b ah x ab) y (hV b ah y aH) e)
  ·refine ag.imp_of_mem ?_;intro a b aE ah bH x ab y aH e;obtain⟨p,qe,rfl⟩:=dC.1 ab;obtain⟨q,Hy,rfl⟩:=dC.1 aH;have az:=Ci p (hV a aE p qe) q (hV b ah q Hy) e;subst az;have Aq:=(hm a aE).1;have gV:=(hm b ah).1;exact ai.two (i:=a.toNat) (j:=b.toNat) (by omega) (by omega) (by omega) qe Hy
 ·have di:i<cH.length:=by simpa[vU]using hi
  show(i:Int)∈r8 (cH.map (mF t.ns cH)) ↔ (i:Int)≠((cH.map (mF t.ns cH)).length:Int)-1;rw[ej,cD];constructor
  ·intro h e;obtain⟨b,ah,h⟩:=uu.1 h;obtain⟨k,ae,aF⟩:=dC.1 h;have aia:=hV b ah k ae;have bo:k=cH[i]:=by
    rw[<-Ho (Hk aia)];unfold ir at aF;have:cH.idxOf k=i:=by omega
    simp only[this]
   have dw:i=cH.length-1:=by omega
   subst dw;rw[qg]at bo;have gV:=(hm b ah).1;have:=ai.node (j:=b.toNat) (by omega) ae;omega
  ·intro h;obtain⟨ah,aN⟩:=hm _ (cC di);rcases aN with e | ⟨y,aH,w9,aib⟩
   ·have:=ag.nodup di (show cH.length-1<cH.length by omega) (e.trans qg.symm);omega
   ·refine uu.2 ⟨y,aH,dC.2 ⟨cH[i],by simpa using aib,?_⟩⟩;unfold ir;rw[ag.idx]
def aic{z:α}{F:aM->List α->α}(bB:∀ d l,F (d.hf l)=F d){j:Nat}(aj:j<t.ns.length):lB z (λd g=>F d (d.ax.map g)) (xj t.ns j) ((xj t.ns j).length-1:Int)=lB z (λd g=>F d (d.ax.map g)) t.ns j:=by
 have a4:=XQ ai aj;have ag:=EG ai j aj;have aD:=HG ai j aj;have hm:=vV ai j aj;have n5:=HH ai aj;rw[Ap ai aj]at a4 |-;generalize cV t.ns j=cH at *;have b3:0<cH.length:=by
  cases cH with
  |nil=>simp at n5| cons a l=>simp
 have qg:cH[cH.length-1]=(j:Int):=by rw[Hm,eR (by omega)]at n5;exact j0 n5
 have XR:∀ (d:aM) (g dH:Int->α),(∀ k∈d.ax,g k=dH k)->F d (d.ax.map g)=F d (d.ax.map dH):=λd g dH h=>by rw[mA h]
 have key:∀ i (h:i<cH.length),lB z (λd g=>F d (d.ax.map g)) (cH.map (mF t.ns cH)) i=lB z (λd g=>F d (d.ax.map g)) t.ns cH[i]:=by
  intro i
  induction i using Nat.strongRecOn with
  |_ i a7=>
   intro h;have ah:=(hm _ (cC h)).1;have az:=yF (z:=z) (f:=λd g=>F d (d.ax.map g)) XR (j2.2 a4) (j:=i) (by simpa[vU]using h);have aF:=yF (z:=z) (f:=λd g=>F d (d.ax.map g)) XR (j2.2 ai) (j:=cH[i].toNat) (by omega);have bo:((cH[i].toNat:Nat):Int)=cH[i]:=by omega
   rw[bo]at aF;rw[aF,<-ij (show cH[i].toNat<t.ns.length by omega)];refine az.trans ?_;simp only[vU,lA];show F (mF t.ns cH cH[i]) (((nodeAt t.ns cH[i].toNat).ax.map (ir cH)).map _)=_;unfold mF;rw[bB,h7];congr 1;refine mA λk ae=>?_;have qH:=aD i h k ae;obtain⟨q,ay,e⟩:=nV qH;rw[gr]at ay;rw[Pe]at e;have:=a7 q (by omega) (by omega);simp only[Function.comp];rw[<-e];unfold ir;rw[ag.idx];exact this
 rw[cD];have:=key (cH.length-1) (by omega);rw[qg]at this;rw[<-this];congr 1;omega
end
def qh:Nat->List bI->List (Nat×aM)
 |_,[]=>[]| b,d::ds=>d.t.ns.map (λn=>(b,n))++qh (b+d.t.ns.length) ds
def gl:Nat->List bI->List Nat
 |_,[]=>[]| b,d::ds=>(b+d.t.bF.toNat)::gl (b+d.t.ns.length) ds
def a6(ds:List bI):Nat:=(ds.map λd=>d.t.ns.length).sum
def eN(ds:List bI)(b:Nat)(n:aM):List Nat:=bif decide (n.k=3)then [(gl 0 ds).getD (df n.t ds 0).toNat 0]else n.ax.map λk=>b+k.toNat
def l9(ds:List bI):List qW:=(qh 0 ds).map λp=>⟨p.2,eN ds p.1 p.2⟩
def qZ(g:dn)(s:ByteArray)(an:Nat):cQ:=⟨l9 g.ds,s,an⟩
def HI:∀ (b:Nat) (ds:List bI),(qh b ds).length=a6 ds
 |b,[]=>rfl| b,d::ds=>by have:=HI (b+d.t.ns.length) ds;simp only[qh,a6,cP,cD,dv,pg]at this |-;omega
def vX:∀ (b:Nat) (ds:List bI),(gl b ds).length=ds.length
 |b,[]=>rfl| b,d::ds=>by simp only[gl,eQ,vX _ ds]
def yZ:∀ (b:Nat) (ds:List bI),(∀ d∈ds,0<=d.t.bF/\d.t.bF<d.t.ns.length)->∀ x∈gl b ds,x<b+a6 ds
 |b,[],_,x,ab=>by cases ab
 |b,d::ds,h,x,ab=>by
  have ag:=h d (.head _);have e:a6 (d::ds)=d.t.ns.length+a6 ds:=by simp[a6]
  rcases eL.1 ab with rfl | ab;·omega
  ·have:=yZ (b+d.t.ns.length) ds (λd ag=>h d (.tail _ ag)) x ab;omega
def XS:∀ (b:Nat) (ds:List bI) (p:Nat×aM),p∈qh b ds->∃ d∈ds,p.2∈d.t.ns/\p.1+d.t.ns.length<=b+a6 ds
 |b,[],p,h=>by cases h
 |b,d::ds,p,h=>by
  have e:a6 (d::ds)=d.t.ns.length+a6 ds:=by simp[a6]
  rcases dV.1 h with h | h;·obtain⟨n,aw,rfl⟩:=dC.1 h;exact⟨d,.head _,aw,by show b+d.t.ns.length<=_;omega⟩
  ·obtain⟨Ln,U,aa,af⟩:=XS _ ds p h;exact⟨Ln,.tail _ U,aa,by omega⟩
def HJ:∀ (n:Nat) (l:List Int),n4 l->(∀ k∈l,0<=k/\k<n)->l.length<=n
 |0,[],_,_=>bY _| 0,k::l,_,h=>by have:=h k (.head _);omega
 |n+1,l,ag,h=>by
  have U:=HJ n (l.filter λk=>decide (k≠(n:Int))) (ag.filter _) λk ae=>by have aa:=yt.1 ae;have af:=bS aa.2;have aP:=h k aa.1;omega
  have aa:∀ l:List Int,n4 l->l.length<=(l.filter λk=>decide (k≠(n:Int))).length+1:=by
   intro l
   induction l with
   |nil=>intro _;simp
   |cons a l a7=>
    intro ag;obtain⟨d1,d2⟩:=List.pairwise_cons.1 ag;by_cases e:a=(n:Int);·have:l.filter (λk=>decide (k≠(n:Int)))=l:=List.filter_eq_self.2 λk ae=>fr λaF=>d1 k ae (e.trans aF.symm);rw[List.filter_cons_of_neg (by simp[e]),this,eQ];exact bY _
    ·have:=a7 d2;rw[List.filter_cons_of_pos (by simp[e]),eQ,eQ];omega
  have:=aa l ag;omega
def Ar{nm:ByteArray}:∀ (ds:List bI) (i:Nat),0<=df nm ds i->df nm ds i<((i+ds.length:Nat):Int)
 |[],i,h=>by simp[df]at h
 |d::ds,i,h=>by
  unfold df at h |-;cases aN:decide (d.name=nm)with
  |true=>simp only[bh,eQ];omega| false=>rw[aN,bf]at h;have:=Ar ds (i+1) h;simp only[bf,eQ];omega
structure kS(g:dn):Prop where
 n:g.n≠0
 r:∀ d∈g.ds,tc d.t
 find:∀ d∈g.ds,∀ n∈d.t.ns,n.k=3->0<=df n.t g.ds 0
 HK:a6 g.ds<=1024
 aid:g.n<=64
def PY(h:gk a1 g=0)(aw:∀ d∈g.ds,d.t.ns.length=d.t.n):kS g:=by
 rw[<-W8]at h;unfold K' at h;cases U:decide ((g.n:Int)=0)with
 |true=>rw[U]at h;cases h
 |false=>
  rw[U,bf]at h;cases aa:s8 g.ds with
  |false=>rw[aa]at h;cases h
  |true=>
   rw[aa,rI,bf]at h;cases af:qT a1 g with
   |true=>rw[af]at h;cases h
   |false=>
    rw[af,bf]at h;cases aP:!(List.range g.ds.length).all (r5 g.ds)with
    |true=>rw[aP]at h;cases h
    |false=>
     rw[aP,bf]at h;cases bq:g.ds.all λd=>d.t.ns.all (Ak g.ds)with
     |false=>rw[bq]at h;cases h
     |true=>
      have ai:∀ d∈g.ds,right d.t=true:=λd ag=>by have:=gh.1 aa d ag;simp only[normal,cp]at this;exact this.2.1
      refine⟨λe=>by have:=cx U;omega,λd ag=>j2.1 (ai d ag),λd ag n aw af=>?_,?_,?_⟩;·have:=gh.1 (gh.1 bq d ag) n aw;simp only[Ak,af,Ep,rI,wO,e5]at this;exact this
      ·have e:a6 g.ds=Cg g:=by unfold a6 Cg;congr 1;refine mA λd ag=>?_;rw[xg,ai d ag,bh];exact aw d ag
       unfold qT at af;simp only[o6,ow]at af;omega
      ·unfold qT at af;simp only[o6,ow]at af;omega
def PZ(ao:0<=d.k){n:Nat}(h:fits d n=true):d.k<10/\(d.k=4\/d.k=5->2<=n)/\(6<=d.k->n=1)/\(d.k=6->0<=d.lo/\d.lo<=99/\(d.hi=-1\/(d.lo<=d.hi/\d.hi<=99)))/\(d.k=9->m3 d.t=true)/\(d.k=2->d.t.size<=255):=by
 unfold fits at h;cases U:decide (10<=d.k)with
 |true=>rw[U]at h;cases h
 |false=>
  have rQ:d.k<10:=by have:=cx U;omega
  rw[U,bf]at h;cases aa:decide ((n:Int)<uf d.k.toNat)||(decide (0<=p3 d.k.toNat)&&decide (p3 d.k.toNat<(n:Int)))with
  |true=>rw[aa]at h;cases h
  |false=>
   rw[aa,bf]at h;simp only[o6,OH,ow]at aa;refine⟨rQ,λae=>?_,λae=>?_,λae=>?_,λae=>?_,λae=>?_⟩
   ·have:uf d.k.toNat=2:=by rcases ae with e | e<;>rw[e]<;>rfl
    omega
   ·have jI:d.k=6\/d.k=7\/d.k=8\/d.k=9:=by omega
    have az:uf d.k.toNat=1:=by rcases jI with e | e | e | e<;>rw[e]<;>rfl
    have aF:p3 d.k.toNat=1:=by rcases jI with e | e | e | e<;>rw[e]<;>rfl
    omega
   ·rw[ae]at h;have be:((!(decide (d.lo<0)||(decide (99<d.lo)||(decide (d.hi≠-1)&&(decide (d.hi<d.lo)||decide (99<d.hi))))))&&(d.oD&&decide (d.t=⟨#[]⟩)))=true:=h;simp only[cp,o7,o6,OH,ow,Decidable.not_not]at be;omega
   ·rw[ae]at h;have be:(m3 d.t&&(d.oD&&(decide (d.lo=0)&&decide (d.hi=0))))=true:=h;simp only[cp]at be;exact be.1
   ·rw[ae]at h;have be:((!(decide (d.t=⟨#[]⟩)||decide (255<d.t.size)))&&(d.oD&&(decide (d.lo=0)&&decide (d.hi=0))))=true:=h;simp only[cp,o7,o6,ow]at be;omega
def HL:∀ {ns:List aM} {n:aM},n∈ns->n.ax.Sublist (r8 ns)
 |d::ns,n,h=>by
  unfold r8;rw[nG];rcases eL.1 h with rfl | h;·exact List.sublist_append_left _ _
  ·exact(HL h).trans (mW _ _)
def aie(hm:kS g)(cZ:∀ d∈g.ds,∀ n∈d.t.ns,0<=n.k){an:Nat}{a:qW}(aE:a∈l9 g.ds):K9 (qZ g s an) a:=by
 have b3:(qZ g s an).ns.length=a6 g.ds:=by simp[qZ,l9,HI]
 obtain⟨p,aD,rfl⟩:=dC.1 aE;obtain⟨d,ag,aw,ah⟩:=XS _ _ _ aD;have ai:=hm.r d ag;obtain⟨j,aj,e⟩:=nV aw;have aC:=ai.fits j aj;rw[e]at aC;obtain⟨f1,f2,f3,f4,-,-⟩:=PZ (cZ d ag _ aw) aC;have fc:=ai.ax j aj;rw[e]at fc;have ep:p.2.ax.length<=j:=HJ j _ (ai.diff.sublist (HL aw)) fc;have vY:=hm.HK;by_cases af:p.2.k=3
 ·have oN:eN g.ds p.1 p.2=[(gl 0 g.ds).getD (df p.2.t g.ds 0).toNat 0]:=by rw[eN,fr af,bh]
  have ay:=hm.find d ag _ aw af;have jH:=Ar g.ds 0 ay;have eS:(df p.2.t g.ds 0).toNat<(gl 0 g.ds).length:=by rw[vX];omega
  refine⟨⟨cZ d ag _ aw,f1⟩,λx ab=>?_,λh=>?_,λ_=>by simp only[oN];rfl,λh=>?_,by simp only[oN];exact b0 rfl⟩;·simp only[oN,gI]at ab;rw[b3,ab,cS,eR eS,ib];have:=yZ 0 g.ds (λd ag=>(hm.r d ag).bF) _ (cC eS);omega
  ·have be:p.2.k=4\/p.2.k=5:=h;omega
  ·have be:p.2.k=6:=h;omega
 ·have oN:eN g.ds p.1 p.2=p.2.ax.map λk=>p.1+k.toNat:=by rw[eN,c0 af,bf]
  refine⟨⟨cZ d ag _ aw,f1⟩,λx ab=>?_,λh=>?_,λh=>?_,λh=>f4 h,?_⟩;·simp only[oN]at ab;obtain⟨k,ae,rfl⟩:=dC.1 ab;have:=fc k ae;rw[b3];omega
  ·have:=f2 h;simp only[oN,cD];omega
  ·have be:p.2.k=3\/6<=p.2.k:=h;have:=f3 (by omega);simp only[oN,cD];exact this
  ·simp only[oN,cD];have:d.t.ns.length<=a6 g.ds:=by omega
   omega
def P0(hm:kS g)(cZ:∀ d∈g.ds,∀ n∈d.t.ns,0<=n.k){an:Nat}(U:an<=s.size)(aa:s.size<=4096):Ag (qZ g s an):=
 ⟨λa aE=>aie hm cZ aE,U,aa⟩
def j3(g:dn)(rule:Nat):Nat:=(gl 0 g.ds).getD rule 0
def P1(hm:kS g){rule:Nat}(h:rule<g.ds.length)(s:ByteArray)(an:Nat):j3 g rule<(qZ g s an).ns.length:=by
 have ap:rule<(gl 0 g.ds).length:=by rw[vX];exact h
 have e:(qZ g s an).ns.length=a6 g.ds:=by simp[qZ,l9,HI]
 rw[e,j3,cS,eR ap,ib];have:=yZ 0 g.ds (λd ag=>(hm.r d ag).bF) _ (cC ap);omega
def n6:ahl:=⟨λ_ _=>l6,[],0⟩
def ky.As{kn:Nat->Nat->cr}{k:Nat}{a:Nat}{l l':List (Nat×Nat)}(h:ky kn aW k hi t a l)(be:ky kn aW k hi t a l'):l=l':=by
 induction h generalizing l' with
 |stop U=>
  cases be with
  |stop=>rfl| fail aa=>exact absurd U aa| more _ aa=>exact absurd U aa
 |fail U aa=>
  cases be with
  |stop af=>exact absurd af U| fail=>rfl| more _ af aP=>rw[aa]at aP;cases aP
 |more _ U aa r a7=>
  cases be with
  |stop af=>exact absurd af U| fail af aP=>rw[aa]at aP;cases aP| more _ af aP vr=>rw[a7 vr]
def iE.As{P:cQ}{kn:Nat->Nat->cr}{k a:Nat}{l l':List (Nat×Nat)}(h:iE P kn k a l)(be:iE P kn k a l'):l=l':=by
 unfold iE at h be;by_cases bj:(P.an k).d.k=6
 ·rw[cG bj]at h be;exact h.As be
 ·rw[ca bj]at h be;by_cases bq:(P.an k).d.k=5
  ·rw[cG bq]at h be;exact h.2.trans be.2.symm
  ·rw[ca bq]at h be;exact h.2.trans be.2.symm
def hE.As{P:cQ}{kn:Nat->Nat->cr}{n m:Nat}{l l':List dF}(h:hE P kn n L l)(be:hE P kn m L l'):l=l':=by
 induction h generalizing m l' with
 |nil=>cases be;rfl
 |zero af ao r a7=>
  cases be with
  |zero jq jX vr=>exact a7 vr| node jq jX=>exact absurd ao jX
 |node af ao aD r a7=>
  cases be with
  |zero jq jX=>exact absurd jX ao| node jq jX qe vr=>cases aD.As qe;rw[a7 vr]
structure gC where
 ok:Bool
 to:Nat
 cW:List dF
end Go.V
