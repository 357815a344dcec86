/- Part 4 of what the proofs of this seat share: the executor, data in memory, walks.
-/
import Derived.Test.YtmncamccjfmbpaaGreatDoorK3
import Derived.ChangeSame
import Derived.ChangeArms
import Derived.OpenShut
import Derived.Deep.DeepHandedRow
import Derived.Lib.LaidTab
import Derived.Test.YtmncamccjfmbpaaGreatDoorRows
import Derived.Test.YtmncamccjfmbpaaGreatDoorCards
import Derived.Test.YtmncamccjfmbpaaGreatDoorTie
import Derived.WalkKit
import Derived.ProofKit
import Derived.WideKeyArgs
import Derived.Below
import Derived.JoinedOf
import Derived.Test.YtmncamccjfmbpaaGreatDoorK2
import Derived.Laws.IdiomStrings
set_option linter.all false
set_option maxHeartbeats 16000000
set_option maxRecDepth 100000
namespace Go.V
open Go Go.Proofs
def eO:=@of_decide_eq_false
def hz:=@List.getElem_of_mem
def gO:=@Option.some.inj
def hg:=@List.mem_flatMap
def gz:=@List.map_map
def pc:=@List.pairwise_append
def p7:=@List.singleton_append
def r7:=@List.getElem_append_left
def qZ:=@List.flatMap_singleton
def nu:=@List.perm_middle
def kn:=@Nat.sub_self
def uG:=@List.getElem_append_right
def q0:=@List.foldl_append
def uH:=@List.reverse_append
def yn:=@List.set_append_right
def uI:=@Nat.le_of_succ_le
def CK:=@List.perm_append_comm_assoc
def nv:=@Nat.ble_eq
def uJ:=@List.length_set
def Aa:=@List.pairwise_flatMap
def yo:=@List.set_cons_zero
def wj:=@List.flatMap_map
def yp:=@List.pairwise_map
def yq:=@BitVec.getLsbD_or
def Ab:=@List.length_flatMap
def FY:=@List.idxOf_lt_length_of_mem
def CL:=@List.filter_append
def J4:=@List.pairwise_iff_getElem
def J5:=@List.getLast?_eq_getElem?
def CM:=@List.take_append
def J6:=@List.eq_of_mem_replicate
def FZ:=@List.getElem_idxOf
def J7:=@BitVec.eq_of_getLsbD_eq
def F0:=@List.getElem_take
def CN:=@List.foldl_nil
def J8:=@List.replicate_succ
def F1:=@List.range_succ
def J9:=@List.getElem_range
def J':=@BitVec.getLsbD_and
def Ka:=@DataW.trod_string
def Kb:=@List.flatten_cons
def Kc:=@DataW.trod_array
def F2:=@Nat.sub_zero
def F3:=@List.all_map
def F4:=@decide_true
variable{I I':aM}{M M0:List aE}{e size f sz c eg gY ln lc src dst c':Nat}{aF:List Int}{g:eo}{os:aU}{xs args vs cs:List Value}{P:Program}{W jy:World}{s:ByteArray}{v:Value}{cb:Array Field}{rows:List (List Value)}{α:Type}{t bj:bw}{x y:Operand}{foot:List Nat}{other:Prop}{z:Bool}{c8 aB qP CO:dt}{pl:List (ByteArray×Int)}{p8:Option Addr}{ns:List an}{K:Value->aM->List aE->Prop}
def oa:Nat->List a2->List (Nat×an)
 |_,[]=>[]| i,d::ds=>d.t.ns.map (λn=>(i,n))++oa (i+1) ds
def CP:∀ (ds:List a2) (i:Nat),qX i ds=(oa i ds).map λp=>[.int .i64 p.1,p.2.val]
 |[],i=>rfl| d::ds,i=>by simp only[qX,oa,dc,gz,CP ds (i+1)];rfl
def nw(ds:List a2):Bool:=ds.all λd=>mK d.name&&normal d.t
def ko:List (ByteArray×Int)->Nat->List a2->Option (List (ByteArray×Int))
 |aP,_,[]=>some aP| aP,i,d::ds=>bif (dz d.name aP).isSome then none else ko (aP++[(d.name,(i:Int))]) (i+1) ds
def wk(aP:List (ByteArray×Int))(n:an):Bool:=!decide (n.k=3)||(dz n.t aP).isSome
def pd(aP:List (ByteArray×Int))(ds:List a2):Bool:=(oa 0 ds).all λp=>wk aP p.2
def eH(aF:List Int)(g:eo):Int:=
 bif decide ((g.n:Int)=0)then 4 else bif !nw g.ds then 4 else bif n' aF g then 40 else
 match ko [] 0 g.ds with
 |none=>6| some aP=>bif pd aP g.ds then 0 else 41
def r8(b:Nat)(e:Int):aE:=⟨b,.cells #[.int .i64 e] 27 (0,0)⟩
def yr{b:Nat}{e:Int}(h:r8 b e∈M):c7 I M ⟨b,0,none⟩ 1 [.int .i64 e]:=
 ⟨rfl,_,_,_,.inr ⟨_,h,rfl,rfl⟩,rfl,rfl⟩
def CQ(w:World):(zeroValue 3).run Tryz.prog w=.ok (.int .i64 0) w:=by
 have h:(Tryz.prog.info? 3).map (λi=>i.zero)=some (some (.int .i64 0)):=by kernel_rfl
 obtain⟨i,aa,ad⟩:=qq.1 h;simp[zeroValue,typeInfo,aa,ad]
def Re(bl:gg I aF)(ax:g.ok I):Spec Tryz.prog 17 [g.val] I [] (λv I' M'=>v=.int .i64 (eH aF g)/\(∀ b o,I b=some o->I' b=some o)/\M'=[]):=by
 refine cp [2,5] a4 Tryz.func17 rfl rfl rfl ?_;intro B ay;have jw:=ax.n;have iN:=ax.bb.cap;refine cJ.mk λcd iG Kd=>?_;refine a9.mk (λaa=>?_) (λaa=>?_)
 ·refine cn.mk [] [] _ _ rfl rfl (bH rfl) rfl ?_;refine aZ.mk _ (yr (b:=cd) (e:=4) (.head _)) ?_;refine⟨_,_,.sub (gn _) .refl,?_,λ_ _ h=>h,rfl⟩;rw[eH,aa];rfl
 ·have lp:g.n≠0:=by simp at aa;omega
  refine dI.inv (ι:=Nat) (λi=>{ bn:=[(1,.ref 1 0),(2,.val (ptr cd)),(19,.val (.slice g.a g.n g.c)),(20,.val (.int .i64 g.n)),(21,.val (.int .i64 i))],cl:=[(1,[.slice g.a g.n g.c])],c2:=I,dx:=[r8 cd 0] }) (λi=>i<=g.n/\nw (g.ds.take i)=true) (λi=>g.n-i) ?_ ?_;·exact⟨0,⟨by simp,rfl⟩,.refl,iJ,.cons rfl .nil⟩
  ·rintro i⟨hi,dN⟩;refine a9.mk (λh=>?_) (λh=>?_)
   ·have aW:i<g.n:=by simpa using h
    have cy:i<g.ds.length:=by omega
    obtain⟨aV,bU,bB⟩:=ax.bb.row a2.da aW cy;have gh:g.ds[i]∈g.ds:=b9 cy;have bad:(mK g.ds[i].name&&normal g.ds[i].t)=false->eH aF g=4:=λah=>by
     have:nw g.ds=false:=by unfold nw;rw[Fz];exact⟨_,gh,by simp[ah]⟩
     rw[eH,aa,this];rfl
    refine bu.mk aV i bU rfl aW ?_;refine aZ.mk _ (bB _) ?_;refine bd.mk [] [r8 cd 0] _ (.refl _) (Jr _ g.ds[i].name) ?_;rintro v I' M' -⟨rfl,rfl,rfl⟩;refine cP.mk (λad=>?_) (λad=>?_)
    ·have hm:mK g.ds[i].name=true:=by simpa using ad
     refine bd.mk [] [r8 cd 0] _ (.refl _) (aaE bl.c (ax.ds _ gh).t) ?_;rintro v I' M' -⟨rfl,rfl,rfl⟩;refine a9.mk (λal=>?_) (λal=>?_)
     ·have dR:normal g.ds[i].t=false:=by simpa using al
      refine cn.mk [] [] _ _ rfl rfl (bH rfl) rfl ?_;refine aZ.mk _ (yr (b:=cd) (e:=4) (.head _)) ?_;refine⟨_,_,.sub (gn _) .refl,?_,λ_ _ h=>h,rfl⟩;rw[bad (by rw[hm,dR];rfl)];rfl
     ·have dR:normal g.ds[i].t=true:=by simpa using al
      refine bi.mk _ (de (i:=i) (by omega)) ?_;refine⟨i+1,⟨⟨by omega,?_⟩,by omega⟩,.refl,iJ,.cons rfl .nil⟩;unfold nw at dN |-;rw[gD cy,Cl,dN];simp[hm,dR]
    ·have hm:mK g.ds[i].name=false:=by simpa using ad
     refine cn.mk [] [] _ _ rfl rfl (bH rfl) rfl ?_;refine aZ.mk _ (yr (b:=cd) (e:=4) (.head _)) ?_;refine⟨_,_,.sub (gn _) .refl,?_,λ_ _ h=>h,rfl⟩;rw[bad (by rw[hm];rfl)];rfl
   ·have cV:g.n<=i:=by simpa using h
    rw[fT (by omega)]at dN;refine bd.mk [] [r8 cd 0] _ (.refl _) (aaH bl ax) ?_;rintro v cT M' -⟨rfl,dg,rfl⟩;refine a9.mk (λad=>?_) (λad=>?_);·refine cn.mk [] [] _ _ rfl rfl (bH rfl) rfl ?_;refine aZ.mk _ (yr (b:=cd) (e:=40) (.head _)) ?_;refine⟨_,_,.sub (gn _) .refl,?_,dg,rfl⟩;rw[eH,aa,dN,ad];rfl
    ·have aaN:eH aF g=match ko [] 0 g.ds with
       |none=>6| some aP=>bif pd aP g.ds then 0 else 41:=by
      rw[eH,aa,dN,ad];rfl
     rw[aaN];have o5:=ax.mono dg;refine br.makeMap a4 rfl (by simp) rfl rfl rfl λiu=>?_;refine cJ.mk λey F5 F6=>?_;refine cn.mk [] [⟨iu,h8 []⟩,r8 cd 0] _ _ rfl rfl (bH rfl) rfl ?_;refine dI.inv (ι:=Nat×List (ByteArray×Int)) (λx=>{ bn:=[(1,.ref 1 0),(2,.val (ptr cd)),(5,.val (ptr ey)),(43,.val (.slice g.a g.n g.c)),(44,.val (.int .i64 g.n)),(45,.val (.int .i64 x.1))],cl:=[(1,[.slice g.a g.n g.c])],c2:=cT,dx:=[⟨ey,.cells #[.map (some iu)] 102 (0,0)⟩,⟨iu,h8 x.2⟩,r8 cd 0] }) (λx=>x.1<=g.n/\ko [] 0 g.ds=ko x.2 x.1 (g.ds.drop x.1)) (λx=>g.n-x.1) ?_ ?_;·exact⟨(0,[]),⟨by simp,rfl⟩,.refl,xQ,.cons rfl .nil⟩
     ·rintro⟨i,aP⟩⟨hi,mG⟩;simp only at hi mG;refine a9.mk (λh=>?_) (λh=>?_)
      ·have aW:i<g.n:=by simpa using h
       have cy:i<g.ds.length:=by omega
       obtain⟨aV,bU,bB⟩:=o5.bb.row a2.da aW cy;have kj:g.ds.drop i=g.ds[i]::g.ds.drop (i+1):=e6 cy;refine bu.mk aV i bU rfl aW ?_;refine aZ.mk _ (bB _) ?_;refine aZ.mk [.map (some iu)] ⟨rfl,_,_,_,.inr ⟨_,.head _,rfl,rfl⟩,rfl,rfl⟩ ?_;refine br.lookup a4 rfl (by simp) rfl rfl rfl rfl (λw=>CQ w) (l:=aP) (g:=iu) rfl rfl (by simp) ?_;refine a9.mk (λal=>?_) (λal=>?_);·refine cn.mk [⟨ey,.cells #[.map (some iu)] 102 (0,0)⟩,⟨iu,h8 aP⟩] [] _ _ rfl rfl (bH rfl) rfl ?_;refine aZ.mk _ (yr (b:=cd) (e:=6) (.tail _ (.tail _ (.head _)))) ?_;refine⟨_,_,.sub (gn _) .refl,?_,dg,rfl⟩;rw[mG,kj,ko,al];rfl
       ·have av:dz g.ds[i].name aP=none:=by simpa using al
        refine aZ.mk [.map (some iu)] ⟨rfl,_,_,_,.inr ⟨_,.head _,rfl,rfl⟩,rfl,rfl⟩ ?_;refine br.Rd a4 rfl rfl rfl rfl rfl rfl rfl rfl rfl av (Mr:=[⟨ey,.cells #[.map (some iu)] 102 (0,0)⟩,r8 cd 0]) (List.Perm.swap _ _ _) ?_;refine bi.mk _ (de (i:=i) (by omega)) ?_;refine⟨(i+1,aP++[(g.ds[i].name,(i:Int))]),⟨⟨by simp only;omega,?_⟩,by simp only;omega⟩,.perm (List.Perm.swap _ _ _) .refl,xQ,.cons rfl .nil⟩;simp only;rw[mG,kj,ko,al];rfl
      ·have aaO:g.n<=i:=by simpa using h
       have eF:ko [] 0 g.ds=some aP:=by rw[mG,ls (by omega),ko]
       rw[eF];refine bd.mk [] [⟨ey,.cells #[.map (some iu)] 102 (0,0)⟩,⟨iu,h8 aP⟩,r8 cd 0] _ (.refl _) (aaJ g) ?_;rintro v eE dB -⟨cj,rfl,Ke,gd,rfl⟩;have km:=o5.mono gd;have Rf:∀ b o,I b=some o->eE b=some o:=λb o h=>gd _ _ (dg _ _ h);refine dh.range a4 rfl rfl rfl .refl (aaK km Ke) (λvs h=>?_) (λk I' M'=>(∀ b o,eE b=some o->I' b=some o)/\((oa 0 g.ds).take k).all (λp=>wk aP p.2)=true/\M'=[⟨ey,.cells #[.map (some iu)] 102 (0,0)⟩,⟨iu,h8 aP⟩,r8 cd 0]) (λex I' M'=>ex=.ret/\(∀ b o,eE b=some o->I' b=some o)/\pd aP g.ds=false/\M'=[⟨ey,.cells #[.map (some iu)] 102 (0,0)⟩,⟨iu,h8 aP⟩,r8 cd 41]) ⟨λ_ _ h=>h,rfl,rfl⟩ ?_ ?_ ?_;·rw[CP]at h;obtain⟨p,_,rfl⟩:=cG.1 h;rfl
       ·rintro k ae I' M' -⟨ju,bo,rfl⟩l B ay iK;have Rg:k<(oa 0 g.ds).length:=by simpa[CP]using ae
        generalize aO:(oa 0 g.ds)[k]=p;have ag:(qX 0 g.ds)[k]=[.int .i64 p.1,p.2.val]:=by simp only[CP,hN,aO]
        rw[ag];have next:wk aP p.2=true->((oa 0 g.ds).take (k+1)).all (λp=>wk aP p.2)=true:=λh=>by rw[gD Rg,Cl,bo,aO];simp[h]
        refine a9.mk (λal=>?_) (λal=>?_)
        ·refine⟨_,_,.refl,ju,next ?_,rfl⟩;have uK:decide (p.2.k=3)=false:=by simpa using al
         simp[wk,uK]
        ·have uK:decide (p.2.k=3)=true:=by simpa using al
         refine aZ.mk [.map (some iu)] ⟨rfl,_,_,_,.inr ⟨_,.head _,rfl,rfl⟩,rfl,rfl⟩ ?_;refine br.lookup a4 rfl (by simp) rfl rfl rfl rfl (λw=>CQ w) (l:=aP) (g:=iu) rfl rfl (by simp) ?_;refine a9.mk (λaL=>?_) (λaL=>?_)
         ·refine cn.mk [⟨ey,.cells #[.map (some iu)] 102 (0,0)⟩,⟨iu,h8 aP⟩] [] _ _ rfl rfl (bH rfl) rfl ?_;refine⟨_,_,.refl,rfl,ju,?_,rfl⟩;unfold pd;rw[Fz];have yt:(dz p.2.t aP).isSome=false:=by simpa using aL
          exact⟨p,by rw[<-aO];exact b9 Rg,by simp[wk,uK,yt]⟩
         ·have yt:(dz p.2.t aP).isSome=true:=by simpa using aL
          exact⟨_,_,.refl,ju,next (by simp[wk,yt]),rfl⟩
       ·rintro I' M' -⟨ju,bo,rfl⟩;have Kf:pd aP g.ds=true:=by unfold pd;rw[fT (by simp[CP])]at bo;exact bo
        refine cn.mk [⟨ey,.cells #[.map (some iu)] 102 (0,0)⟩,⟨iu,h8 aP⟩] [] _ _ rfl rfl (bH rfl) rfl ?_;refine aZ.mk _ (yr (b:=cd) (e:=0) (.tail _ (.tail _ (.head _)))) ?_;refine⟨_,_,.sub (gn _) .refl,?_,λb o h=>ju _ _ (Rf _ _ h),rfl⟩;simp only[Kf];rfl
       ·rintro ex I' M' -⟨rfl,ju,Kf,rfl⟩;refine⟨by simp,?_⟩;refine aZ.mk _ (yr (b:=cd) (e:=41) (.tail _ (.tail _ (.head _)))) ?_;refine⟨_,_,.sub (gn _) .refl,?_,λb o h=>ju _ _ (Rf _ _ h),rfl⟩;simp only[Kf];rfl
structure aaP where
 a:Option Addr
 n:Nat
 c:Nat
 l:List Int
structure F7 where
 rows:List aaP
 a:Option Addr
 n:Nat
 c:Nat
def aU.Ac{b:Nat}(h:os.ok size xs)(ah:os.n*b<=140737488355328)(bC:∀ g,os.a=some g->I g=none)(Mr:List aE) :
  ∃ I',hY [] I (os.aq e++Mr) I' Mr/\(∀ b o,I b=some o->I' b=some o)/\dZ I' (os.a.map λg=>⟨g,0,none⟩) os.n os.c size b xs:=by
 obtain⟨a,n,c,aS⟩:=os;cases a with
 |none=>obtain⟨aa,ad⟩:=h.nil rfl;simp only at aa ad;subst aa;subst ad;exact⟨I,.refl,λ_ _ h=>h,h.len,⟨cI _,by simp⟩,.inl rfl⟩
 |some g=>obtain⟨aa,ad,al,aL⟩:=h.cap g rfl;have ax:=bC g rfl;exact⟨ins I g (.cells aS.toArray e (0,0)),.vt rfl (by simp) .refl,z2 ax,h.len,⟨ad,ah⟩,.inr ⟨⟨g,0,none⟩,rfl,rfl,_,_,_,z1 ..,by simpa using aL⟩⟩
def jz:aU:=⟨none,0,0,[]⟩
def ob(size:Nat):jz.ok size []:=⟨by simp[jz],λ_=>⟨rfl,rfl⟩,λg h=>by cases h⟩
def aU.ok.oc{l:List Int}(h:os.ok 1 (l.map (Value.int .i64))):os.n=l.length:=by have:=h.len;simp at this;omega
def valid(n:Nat)(l:List Int):Prop:=∀ k∈l,0<=k/\k<n
def pe(W:World):aM:=λb=>W.heap[b]?
def aaQ(W:World):dT (pe W) [] W:=⟨λb o h=>h,(λx ab=>by cases ab),(λx ab=>by cases ab),zm⟩
structure yu(W jy:World):Prop where
 dA:∀ b,b<W.heap.size->jy.heap[b]?=W.heap[b]?
 sz:W.heap.size<=jy.heap.size
 out:mv W jy
def aaR{post:Value->aM->List aE->Prop}(h:sN P f args (pe W) [] post) :
  Calls P f args.toArray W λe jy=>∃ v,e=.returned v/\(∃ I' M',post v I' M')/\yu W jy:=by
 refine(h.2 W (aaQ W)).mono ?_;rintro e jy⟨v,I',M',rfl,aO,_,eB⟩;exact⟨v,rfl,⟨I',M',aO⟩,λb ah=>eB.dA b ah (λy aD=>by cases aD),eB.sz,eB.out⟩
def yu.kept(h:yu W jy)(may:MemPlace->Prop):W.keptBut jy may:=by
 refine⟨h.out.1,h.out.2,λi hi=>?_⟩;rw[h.dA i hi];cases W.heap[i]? with
 |none=>rfl| some o=>cases o<;>simp
def yu.frozen(h:yu W jy){a:Addr}(aY:a.block<W.heap.size):jy.frozen? a=W.frozen? a:=by unfold World.frozen?;rw[h.dA _ aY]
variable{H:Type}{enc:TypeId×Value->H}{P:Program}
def aaS{f:Func}{s:ChangeSpec}{apart fresh handsOn again:Bool}{args:Array Value}{ds gs:List (DataW H)}{before pa pv:List MemPlace}(hZ:DataW.Whole enc P f.params.toList s.vars apart W args.toList ds gs before)(CR:∀ (b:Nat) (fa:Nat->Bool) (aj:Bool),DataW.TrodAll enc P jy b fa aj f.resultTypes.toList (v.resultList f.resultTypes.size) (s.fn H (ds++gs)).results [])(k1:∀ fa:Nat->Bool,(∀ p∈before,fa p.block=true)->DataW.TrodAll enc P jy 0 fa true f.params.toList args.toList (s.fn H (ds++gs)).args pa)(Rh:∀ fa:Nat->Bool,(∀ p∈before,fa p.block=true)->DataW.TrodVars enc P jy fa s.vars (s.fn H (ds++gs)).vars pv)(Ad:before=pa++pv)(ae:yu W jy)(bo:∀ (j:Nat) (t:TypeId) (r:Value),f.resultTypes[j]?=some t->(v.resultList f.resultTypes.size)[j]?=some r->Value.okWide P jy .any 0 t r) :
  s.post enc P f apart fresh handsOn again W args v jy:=by
 have hold:∀ p∈before,(λb=>decide (b<W.heap.size)) p.block=true:=λp aO=>by simpa using hZ.lt p aO
 have aW:∀ p∈before,p.block<W.heap.size:=λp aO=>hZ.lt p aO;refine⟨ds,gs,before,[],pa,pv,hZ,CR _ _ _,k1 _ hold,Rh _ hold,World.keptBut_mono (λp aO=>⟨aO,?_⟩) (ae.kept (·∈before)),λ_=>?_⟩
 ·rw[Ad,cO]at aO;exact Or.inr aO
 ·obtain⟨_,_,_,_,_,a',aJ⟩:=hZ;refine⟨bo,_,_,([]++pa)++pv,⟨[]++pa,pv,ChangeShapes.trodAll_append (k1 _ (λ_ _=>rfl)) (CR _ _ _),Rh _ (λ_ _=>rfl),rfl,?_,?_⟩,?_⟩
  ·intro b off aO;have yv:MemPlace.cell b off∈before:=by rw[Ad];simpa using aO
   rw[ae.frozen (a:=⟨b,off,none⟩) (aW _ yv)];exact a' b off yv
  ·intro aY;have:=aJ aY;rw[Ad]at this;simpa using this
  ·intro p aO _;rw[Ad];simpa using aO
def uL:DataW H->Option Value
 | .lit (.int k z)=>some (.int k z)| .lit (.string l)=>some (.string ⟨l.toArray⟩)| .lit (.bool b)=>some (.bool b)| _=>none
def CS(P:Program)(e:TypeId):Bool:=match P.underlying e with
 |some .bool | some (.int _) | some .string=>true| _=>false
section
variable{w:World}{c4:Nat}{fa:Nat->Bool}{held:Bool}{eg:Nat}{t e:TypeId}{cs:List Value}{d:DataW H}{p:List MemPlace}
def Ri(he:CS P e=true)(h:DataW.trod enc P w c4 fa held eg e cs=some (d,p))(ag:uL d=some v):cs=[v]:=by
 unfold CS at he;split at he
 ·rename_i hu;obtain⟨b,rfl,ab⟩:=DataW.trod_bool hu h;cases ab;simpa[uL]using ag
 ·rename_i k hu;obtain⟨n,rfl,ab,_⟩:=DataW.trod_int hu h;cases ab;simpa[uL]using ag
 ·rename_i hu;obtain⟨s,rfl,ab,_⟩:=Ka hu h;cases ab;simpa[uL]using ag
 ·cases he
def F8{α β:Type}{f:α->Option β}:∀ {l:List α} {r:List β},l.mapM f=some r->r.length=l.length/\∀ i (h:i<l.length) (bq:i<r.length),f l[i]=some r[i]
 |[],r,h=>by simp at h;subst h;exact⟨rfl,λi h=>by simp at h⟩
 |x::l,r,h=>by
  simp only[Bx,Option.bind_eq_bind,IT,Option.pure_def,jl]at h;obtain⟨b,ah,xP,gw,rfl⟩:=h;obtain⟨aa,ad⟩:=F8 gw;refine⟨by simp[aa],λi hi ct=>?_⟩;cases i with
  |zero=>simpa using ah| succ i=>simpa using ad i (by simpa using hi) (by simpa using ct)
def Rj{cs vs:List Value}(av:cs.length=vs.length)(h:∀ i (hi:i<vs.length),(cs.drop i).take 1=[vs[i]]):cs=vs:=by apply qD av;intro i aa ad;have:=h i ad;rw[e6 aa,oN,nS]at this;simpa using this
def Rk{n:Nat}(aw:P.underlying t=some (.array n e))(he:CS P e=true)(CT:P.cellsOf e=1)(dJ:P.cellsOf t=n){ds:List (DataW H)}(h:DataW.trod enc P w c4 fa held eg t cs=some (.agg ds,p))(ag:ds.mapM uL=some vs):cs=vs:=by
 obtain⟨xs,m,rfl,ab,av,l5,hi⟩:=Kc aw h;have e2:ds=xs.map (·.1):=by have:=congrArg Prod.fst ab;simpa using this
 obtain⟨a1,ba⟩:=F8 ag;have p':vs.length=n:=by rw[a1,e2];simpa using l5
 refine Rj (by rw[av,dJ,p']) λi ct=>?_;have aa:=hi i (by omega);rw[CT,gV]at aa;have r9:i<xs.length:=by omega
 rw[dX r9]at aa;have ad:=ba i (by rw[e2];simpa using r9) ct;have al:ds[i]'(by rw[e2];simpa using r9)=xs[i].1:=by simp[e2]
 rw[al]at ad;exact Ri he (d:=xs[i].1) (p:=xs[i].2) aa ad
def aaT(aw:P.underlying t=some (.struct cb))(az:∀ (i:Nat) (f:Field),cb[i]?=some f->CS P f.type=true/\f.offset=i/\P.cellsOf f.type=1)(dJ:P.cellsOf t=cb.size){ds:List (DataW H)}(h:DataW.trod enc P w c4 fa held eg t cs=some (.agg ds,p))(ag:ds.mapM uL=some vs):cs=vs:=by
 obtain⟨xs,m,rfl,ab,av,l5,hi⟩:=DataW.trod_struct aw h;have e2:ds=xs.map (·.1):=by have:=congrArg Prod.fst ab;simpa using this
 obtain⟨a1,ba⟩:=F8 ag;have p':vs.length=cb.size:=by rw[a1,e2];simpa using l5
 refine Rj (by rw[av,dJ,p']) λi ct=>?_;have Rl:i<cb.size:=by omega
 obtain⟨dS,ch,gI⟩:=az i cb[i] (Iu Rl);have aa:=hi i cb[i] (Iu Rl);rw[ch,gI]at aa;have r9:i<xs.length:=by omega
 rw[dX r9]at aa;have ad:=ba i (by rw[e2];simpa using r9) ct;have al:ds[i]'(by rw[e2];simpa using r9)=xs[i].1:=by simp[e2]
 rw[al]at ad;exact Ri dS (d:=xs[i].1) (p:=xs[i].2) aa ad
def Rm{sz:Nat}:∀ (rows:List (List Value)) (cs:List Value),cs.length=rows.length*sz->(∀ i (hi:i<rows.length),(cs.drop (i*sz)).take sz=rows[i])->cs=rows.flatten
 |[],cs,av,_=>im (by simpa using av)
 |r::rows,cs,av,h=>by
  have ay:=h 0 (by simp);simp only[vH,xV,oM]at ay;rw[ea,ke,oO]at av;have aR:=Rm (sz:=sz) rows (cs.drop sz) (by rw[rF];omega) λi hi=>by have:=h (i+1) (by simpa using hi);rw[Ff,show sz+i*sz=(i+1)*sz from by rw[ke];omega];simpa using this
  rw[Kb,<-aR,<-ay,qM]
def aaU{n:Nat}(aw:P.underlying t=some (.array n e))(CT:P.cellsOf e=sz)(dJ:P.cellsOf t=n*sz){ds:List (DataW H)}(h:DataW.trod enc P w c4 fa held eg t cs=some (.agg ds,p))(af:rows.length=ds.length)
  (dy:∀ i (hi:i<ds.length) (ct:i<rows.length) eg cs p,DataW.trod enc P w c4 fa held eg e cs=some (ds[i],p)->cs=rows[i]):cs=rows.flatten:=by
 obtain⟨xs,m,rfl,ab,av,l5,hi⟩:=Kc aw h;have e2:ds=xs.map (·.1):=by have:=congrArg Prod.fst ab;simpa using this
 have eh:rows.length=n:=by rw[af,e2];simpa using l5
 refine Rm (sz:=sz) rows cs (by rw[av,dJ,eh]) λi ct=>?_;have aa:=hi i (by omega);rw[CT]at aa;have r9:i<xs.length:=by omega
 rw[dX r9]at aa;have al:ds[i]'(by rw[e2];simpa using r9)=xs[i].1:=by simp[e2]
 exact dy i (by rw[e2];simpa using r9) ct m _ xs[i].2 (by rw[al];exact aa)
def Rn(d:DataW H):Option (List Value):=match d with
 | .agg l=>l.mapM uL| _=>none
def Kg{n:Nat}(aw:P.underlying t=some (.array n e))(CT:P.cellsOf e=sz)(dJ:P.cellsOf t=n*sz){ds:List (DataW H)}(h:DataW.trod enc P w c4 fa held eg t cs=some (.agg ds,p))(af:ds.mapM Rn=some rows)
  (dy:∀ eg cs p l row,DataW.trod enc P w c4 fa held eg e cs=some (.agg l,p)->l.mapM uL=some row->cs=row):cs=rows.flatten:=by
 obtain⟨a1,ba⟩:=F8 af;refine aaU aw CT dJ h a1 λi hi ct eg cs p bq=>?_;have ad:=ba i hi ct;unfold Rn at ad;split at ad
 ·rename_i l av;rw[av]at bq;exact dy _ _ _ _ _ bq ad
 ·cases ad
end
end Go.V
namespace Go.V
open Go Go.Proofs
variable{I I':aM}{M M0:List aE}{e size f sz c eg gY ln lc src dst c':Nat}{aF:List Int}{g:eo}{os:aU}{xs args vs cs:List Value}{P:Program}{W jy:World}{s:ByteArray}{v:Value}{cb:Array Field}{rows:List (List Value)}{α:Type}{t bj:bw}{x y:Operand}{foot:List Nat}{other:Prop}{z:Bool}{c8 aB qP CO:dt}{pl:List (ByteArray×Int)}{p8:Option Addr}{ns:List an}{K:Value->aM->List aE->Prop}
def F9{n:String}{g:Nat}{cs:Array Value}(ax:P.globalNamed n=some g)(h:W.var? P n=some cs):∃ T ak,W.heap[g]?=some (.cells cs T ak):=by
 simp only[World.var?,ax,Option.bind_some]at h;split at h
 ·rename_i c T ak cK;cases h;exact⟨T,ak,cK⟩
 ·cases h
def lJ:List Int:=[0,1,56,2,57,49,28,3,61,58,42,50,38,29,17,4,62,47,59,36,45,43,51,22,53,39,33,30,24,18,12,5,63,55,48,27,60,41,37,16,46,35,44,21,52,32,23,11,54,26,40,15,34,20,31,10,25,14,19,9,13,8,7,6]
def aaV{bc:List (String×DataW Unit)}(h:laidMet Tryz.prog ([("math/bits.deBruijn32tab",YtmncamccjfmbpaaGreatDoor.Rows.laid_math_bits_deBruijn32tab),("math/bits.deBruijn64tab",YtmncamccjfmbpaaGreatDoor.Rows.laid_math_bits_deBruijn64tab),("internal/strconv.uint64pow10",YtmncamccjfmbpaaGreatDoor.Rows.laid_internal_strconv_uint64pow10),("bonsai/tree.counts",YtmncamccjfmbpaaGreatDoor.Rows.laid_bonsai_tree_counts),("bonsai/print.counts",YtmncamccjfmbpaaGreatDoor.Rows.laid_bonsai_print_counts),("bonsai/print.signs",YtmncamccjfmbpaaGreatDoor.Rows.laid_bonsai_print_signs)]++bc) W):gg (pe W) lJ:=by
 obtain⟨ps,ek,_⟩:=h;obtain⟨a1,t1,als,f1,Cw,hf,o5,nt,E2,hv,ek,_⟩:=ek;obtain⟨ba,t2,aaW,f2,Cx,g4,km,n7,kd,p3,ek,_⟩:=ek;obtain⟨b4,t3,alt,f3,aaX,jY,n5,alu,CU,Ga,ek,_⟩:=ek;obtain⟨gx,t4,aaY,f4,p4,lE,wh,Kh,aaZ,aa0,ek,_⟩:=ek;obtain⟨n1,t5,aa1,f5,p5,alv,Ro,aa2,aa3,aa4,ek,_⟩:=ek;obtain⟨Gb,t6,aa5,f6,alw,alx,Rp,aa6,aa7,aa8,ek,_⟩:=ek;obtain rfl:=gO ((show Tryz.prog.globalNamed "math/bits.deBruijn64tab" = some 3 by kernel_rfl).symm.trans km)
 obtain rfl:=gO ((show(Tryz.prog.globals[3]?).map (·.type)=some 377 by kernel_rfl).symm.trans n7);obtain rfl:=gO ((show Tryz.prog.globalNamed "bonsai/tree.counts" = some 0 by kernel_rfl).symm.trans wh)
 obtain rfl:=gO ((show(Tryz.prog.globals[0]?).map (·.type)=some 232 by kernel_rfl).symm.trans Kh);obtain rfl:=gO ((show Tryz.prog.globalNamed "bonsai/print.counts" = some 2 by kernel_rfl).symm.trans Ro)
 obtain rfl:=gO ((show(Tryz.prog.globals[2]?).map (·.type)=some 346 by kernel_rfl).symm.trans aa2);obtain rfl:=gO ((show Tryz.prog.globalNamed "bonsai/print.signs" = some 1 by kernel_rfl).symm.trans Rp)
 obtain rfl:=gO ((show(Tryz.prog.globals[1]?).map (·.type)=some 291 by kernel_rfl).symm.trans aa6);obtain⟨yh,kp,cd⟩:=F9 km kd;obtain⟨JW,wm,l'⟩:=F9 wh aaZ;obtain⟨aa9,aba,ey⟩:=F9 Ro aa3;obtain⟨abb,abc,b6⟩:=F9 Rp aa7;have ha:aaW.toList=lJ.map (Value.int .u8):=Rk (show Tryz.prog.underlying 377=some (.array 64 5) by kernel_rfl) (by kernel_rfl) (by kernel_rfl) (by kernel_rfl) p3 (by kernel_rfl);have Gc:aaY.toList=jU.map (Value.int .i64):=Kg (n:=10) (sz:=2) (show Tryz.prog.underlying 232=some (.array 10 231) by kernel_rfl) (by kernel_rfl) (by kernel_rfl) aa0 (rows:=[[.int .i64 0,.int .i64 0],[.int .i64 0,.int .i64 0],[.int .i64 0,.int .i64 0],[.int .i64 0,.int .i64 0],[.int .i64 2,.int .i64 (-1)],[.int .i64 2,.int .i64 (-1)],[.int .i64 1,.int .i64 1],[.int .i64 1,.int .i64 1],[.int .i64 1,.int .i64 1],[.int .i64 1,.int .i64 1]]) (by kernel_rfl) (λ_ _ _ _ _ aa ad=>Rk (show Tryz.prog.underlying 231=some (.array 2 3) by kernel_rfl) (by kernel_rfl) (by kernel_rfl) (by kernel_rfl) aa ad);have fields:∀ {t:TypeId},(match Tryz.prog.underlying t with
   |some (.struct cb)=>decide (Tryz.prog.cellsOf t=cb.size)&&(List.range cb.size).all λi=>match cb[i]? with
    |some f=>CS Tryz.prog f.type&&(decide (f.offset=i)&&decide (Tryz.prog.cellsOf f.type=1))| none=>false
   |_=>false)=true->∀ (eg:Nat) (cs:List Value) (p:List MemPlace) (l:List (DataW Unit)) (row:List Value),DataW.trod (λ_=>()) Tryz.prog W 0 (λ_=>true) false eg t cs=some (.agg l,p)->l.mapM uL=some row->cs=row:=by
  intro t au eg cs p l row aa ad;split at au;·rename_i cb hu;simp only[b',hk,fL,kb]at au;refine aaT hu (λi f az=>?_) au.1 aa ad;have hi:=au.2 i (j9.1 az).1;rw[az]at hi;simpa using hi
  ·cases au
 have Gd:aa1.toList=CC:=Kg (n:=3) (sz:=3) (show Tryz.prog.underlying 346=some (.array 3 345) by kernel_rfl) (by kernel_rfl) (by kernel_rfl) aa4 (rows:=[[.int .i64 0,.int .i64 1,.string ⟨#[63]⟩],[.int .i64 0,.int .i64 (-1),.string ⟨#[42]⟩],[.int .i64 1,.int .i64 (-1),.string ⟨#[43]⟩]]) (by kernel_rfl) (fields (by kernel_rfl));have Rq:aa5.toList=rY.map λl=>Value.string (strOf l):=Kg (n:=10) (sz:=3) (show Tryz.prog.underlying 291=some (.array 10 290) by kernel_rfl) (by kernel_rfl) (by kernel_rfl) aa8 (rows:=[[.string ⟨#[]⟩,.string ⟨#[]⟩,.string ⟨#[]⟩],[.string ⟨#[]⟩,.string ⟨#[]⟩,.string ⟨#[]⟩],[.string ⟨#[]⟩,.string ⟨#[]⟩,.string ⟨#[]⟩],[.string ⟨#[]⟩,.string ⟨#[]⟩,.string ⟨#[]⟩],[.string ⟨#[]⟩,.string ⟨#[32]⟩,.string ⟨#[]⟩],[.string ⟨#[]⟩,.string ⟨#[32,47,32]⟩,.string ⟨#[]⟩],[.string ⟨#[]⟩,.string ⟨#[]⟩,.string ⟨#[]⟩],[.string ⟨#[38]⟩,.string ⟨#[]⟩,.string ⟨#[]⟩],[.string ⟨#[33]⟩,.string ⟨#[]⟩,.string ⟨#[]⟩],[.string ⟨#[60]⟩,.string ⟨#[]⟩,.string ⟨#[62]⟩]]) (by kernel_rfl) (fields (by kernel_rfl));have arr:∀ {cs:Array Value} {l:List Value},cs.toList=l->cs=l.toArray:=λh=>by apply fZ;simpa using h
 refine⟨⟨JW,wm,?_⟩,⟨aa9,aba,?_⟩,⟨abb,abc,?_⟩,by decide,by decide,yh,kp,?_⟩
 ·rw[<-arr Gc];exact l'
 ·rw[<-arr Gd];exact ey
 ·rw[<-arr Rq];exact b6
 ·rw[<-arr ha];exact cd
def Ae(cs:Array Value):Obj->Obj
 | .cells _ t ak=>.cells cs t ak| o=>o
def abd:List Int:=(List.range 20).map λi=>(10:Int)^i
def abe:List Int:=[0,1,28,2,29,14,24,3,30,22,20,15,25,17,4,8,31,27,13,23,21,19,16,7,26,12,18,6,11,5,10,9]
noncomputable def Ki(os:Os):World:=
 { World.holding Tryz.prog os ⟨#[],#[],[]⟩with heap:=((((((World.holding Tryz.prog os ⟨#[],#[],[]⟩).heap.modify 0 (Ae (jU.map (Value.int .i64)).toArray)).modify 2 (Ae CC.toArray)).modify 1 (Ae (rY.map λl=>Value.string (strOf l)).toArray)).modify 3 (Ae (lJ.map (Value.int .u8)).toArray)).modify 5 (Ae (abd.map (Value.int .u64)).toArray)).modify 6 (Ae (abe.map (Value.int .u8)).toArray) }
def own:ownKnob Tryz.prog.godebug=none:=by kernel_rfl
def laidOut:laidOutB Tryz.prog=true:=by kernel_rfl
def Rr{l:List α}{q:α->Bool}(h:l.all q=true){x:α}(ab:x∈l):q x=true:=fL.1 h x ab
def abf{L:List (String×DataW Unit)}(ek:laidMetH Tryz.prog L W)(he:L=[("math/bits.deBruijn32tab",YtmncamccjfmbpaaGreatDoor.Rows.laid_math_bits_deBruijn32tab),("math/bits.deBruijn64tab",YtmncamccjfmbpaaGreatDoor.Rows.laid_math_bits_deBruijn64tab),("internal/strconv.uint64pow10",YtmncamccjfmbpaaGreatDoor.Rows.laid_internal_strconv_uint64pow10),("bonsai/tree.counts",YtmncamccjfmbpaaGreatDoor.Rows.laid_bonsai_tree_counts),("bonsai/print.counts",YtmncamccjfmbpaaGreatDoor.Rows.laid_bonsai_print_counts),("bonsai/print.signs",YtmncamccjfmbpaaGreatDoor.Rows.laid_bonsai_print_signs)]):gg (pe W) lJ:=by
 subst he;exact aaV (bc:=[]) ek
structure wo(I:aM)(d:an):Prop where
 k:0<=d.k/\d.k<256
 b3:gb d.b3
 s1:gb d.s1
 s2:gb d.s2
 cm:gb d.cm
 lo:gy d.lo
 hi:gy d.hi
 bb:dZ I d.cW d.aT d.c5 1 0 (d.ap.map (.int .i64 ·))
 ap:∀ x∈d.ap,gy x
 eX:d.t.size<=9223372036854775807
structure Af(I:aM)(t:bw):Prop where
 bb:dZ I t.a t.n t.c 9 0 (t.ns.flatMap an.cells)
 ns:∀ d∈t.ns,wo I d
 bm:gy t.bm
structure Ag(I:aM)(d:a2):Prop where
 name:d.name.size<=9223372036854775807
 t:Af I d.t
structure r'(I:aM)(g:eo):Prop where
 bb:dZ I g.a g.n g.c 3 0 (g.ds.flatMap a2.cells)
 ds:∀ d∈g.ds,Ag I d
def dZ.Kj{a:Option Addr}{n b ij:Nat}(h:dZ I a n c size b vs)(ah:n*ij<=140737488355328):dZ I a n c size ij vs:=⟨h.len,⟨h.cap.1,ah⟩,h.rd⟩
def wo.mono{d:an}(h:wo I d)(bC:∀ b o,I b=some o->I' b=some o):wo I' d:={ h with bb:=h.bb.mono bC }
def Ag.mono{d:a2}(h:Ag I d)(bC:∀ b o,I b=some o->I' b=some o):Ag I' d:=⟨h.name,h.t.bb.mono bC,λbX bJ=>(h.t.ns bX bJ).mono bC,h.t.bm⟩
def r'.mono(h:r' I g)(bC:∀ b o,I b=some o->I' b=some o):r' I' g:=⟨h.bb.mono bC,λd aj=>(h.ds d aj).mono bC⟩
def r'.n(h:r' I g):g.ds.length=g.n:=by have:=h.bb.len;rw[hM _ 3 a2.da]at this;omega
def Af.n(h:Af I t):t.ns.length=t.n:=by have:=h.bb.len;rw[hM _ 9 an.da]at this;omega
def wq{x r:Int}(h:x=r)(af:-9223372036854775808<=r/\r<=9223372036854775807):IntKind.i64.wrap x=r:=by rw[h];exact wrap_i64 af
def aU.CV{l:List Int}(h:os.ok 1 (l.map (.int .i64 ·)))(a3:∀ x∈os.aq e,x∈M){j:Nat}(ai:j<l.length) :
  ∃ aV,(os.a.map λg=>(⟨g,0,none⟩:Addr))=some aV/\c7 I M (aV.add (j*1)) 1 [.int .i64 l[j]]:=by
 obtain⟨a,n,c,aS⟩:=os;have av:=h.oc;simp only at av;cases a with
 |none=>have:=(h.nil rfl).1;simp only at this;omega
 |some g=>
  obtain⟨aa,ad,al,aL⟩:=h.cap g rfl;simp only at aa ad aL;refine⟨⟨g,0,none⟩,rfl,?_⟩;rw[dY _ rfl];refine⟨rfl,_,_,_,.inr ⟨⟨g,.cells aS.toArray e (0,0)⟩,a3 _ (by simp[aU.aq]),rfl,rfl⟩,?_,rfl⟩;simp only[c9,gV];have jL:j<(l.map (Value.int .i64)).length:=by simpa using ai
  have aA:(aS.take (n*1))[j]?=some (.int .i64 l[j]):=by rw[aL];simp[ai]
  rw[j']at aA;have k0:j<n*1:=by omega
  rw[ck k0]at aA;have Rs:j<aS.length:=(ih.1 aA).1;rw[e6 Rs,oN,nS];rw[dX Rs]at aA;rw[gO aA]
section
variable{H:Type}{enc:TypeId×Value->H}{P:Program}{W:World}{c4:Nat}{fa:Nat->Bool}{held:Bool}
def Rt{α:Type}{p:Nat->α->Prop}:∀ (n:Nat),(∀ i,i<n->∃ d,p i d)->∃ l:List α,l.length=n/\∀ i (h:i<l.length),p i l[i]
 |0,_=>⟨[],rfl,λi h=>by simp at h⟩
 |n+1,h=>by
  obtain⟨l,aa,ad⟩:=Rt n λi hi=>h i (by omega);obtain⟨d,aj⟩:=h n (by omega);refine⟨l++[d],by simp[aa],λi hi=>?_⟩;by_cases aW:i<l.length;·rw[r7 aW];exact ad i aW
  ·have e:i=l.length:=by simp at hi;omega
   subst e;simpa[aa]using aj
def Kk{f:α->List Value}(ar:0<size)(az:∀ x,(f x).length=size)(ok:α->Prop){t e:TypeId}(aw:P.underlying t=some (.slice e))(au:P.cellsOf e=size)(dy:∀ eg cs x,DataW.trod enc P W c4 fa held eg e cs=some x->∃ d,cs=f d/\ok d){x:DataW H×List MemPlace}(h:DataW.trod enc P W c4 fa held eg t cs=some x) :
  ∃ (a:Option Addr) (n c:Nat) (l:List α),cs=[.slice a n c]/\dZ (pe W) a n c size 0 (l.flatMap f)/\l.length=n/\(∀ d∈l,ok d)/\(a=none->c=0)/\c<=maxLen:=by
 rcases DataW.trod_slice aw h with⟨rfl,_⟩ | ⟨a,len,cap,aly,bc,m,_,rfl,_,ah,av,hm,cu,abg,_,_⟩
 ·exact⟨none,0,0,[],rfl,⟨by simp,⟨cI _,by omega⟩,.inl rfl⟩,rfl,λd aj=>by simp at aj,λ_=>rfl,by unfold maxLen;omega⟩
 have each:∀ i,i<len->∃ d,ok d/\W.cells? c4 (a.add (i*size)) size=some (f d):=λi hi=>by have aa:=abg i hi;rw[au,dX (by omega)]at aa;obtain⟨cs',ad,al⟩:=IT.1 aa;obtain⟨d,rfl,aj⟩:=dy _ _ _ al;exact⟨d,aj,ad⟩
 obtain⟨l,lZ,Kl⟩:=Rt len each;refine⟨some a,len,cap,l,rfl,⟨by rw[hM f size az,lZ],⟨av,by omega⟩,?_⟩,lZ,λd aj=>?_,λh=>by simp at h,hm⟩
 ·by_cases ay:len=0
  ·exact .inl ay
  right
  have uM:=(Kl 0 (by omega)).2;obtain⟨-,-,Km⟩:=World.cells?_some uM;have Ru:=Km 0 ar;rw[dX (by rw[az];exact ar)]at Ru;have Rv:a.spot=none:=by
   have:=World.cell?_spot Ru;cases cZ:a.spot with
   |none=>rfl| some s=>simp[Addr.add,cZ]at this
  refine⟨a,rfl,Rv,?_⟩;have Rw:∀ i (hi:i<l.length),∀ k,k<size->W.cell? ⟨a.block,a.off+(i*size+k),none⟩=(f l[i])[k]?:=λi hi k ae=>by obtain⟨-,-,cK⟩:=World.cells?_some (Kl i hi).2;have:=cK k ae;rw[dY _ Rv,dY _ rfl]at this;rw[<-this];congr 2;simp only[];omega
  have abh:∃ cs T ak,W.heap[a.block]?=some (.cells cs T ak):=by
   have aa:=Rw 0 (by omega) 0 ar;rw[dX (by rw[az];exact ar)]at aa;unfold World.cell? at aa;cases cK:W.heap[a.block]? with
   |none=>simp[cK]at aa
   |some o=>
    cases o with
    |cells cs T ak=>exact⟨cs,T,ak,rfl⟩| _=>simp[cK]at aa
  obtain⟨cs,T,ak,cK⟩:=abh;refine⟨cs,T,ak,cK,?_⟩;have k2:=hM f size az l;apply vT;intro j;by_cases ai:j<len*size
  ·have hdiv:j/size<l.length:=by rw[lZ];exact Nat.div_lt_of_lt_mul (by rw[Nat.mul_comm];exact ai)
   have Ge:=Nat.mod_lt j ar;have e:=Nat.div_add_mod j size;rw[Nat.mul_comm]at e;have aa:=Rw (j/size) hdiv (j%size) Ge;rw[e]at aa;have ad:=zN f size az l (j/size) hdiv;have al:(l.flatMap f)[j]?=(f l[j/size])[j%size]?:=by rw[<-ad,j',ck Ge,na,e]
   rw[al,<-aa,j',ck ai,na];simp[World.cell?,cK]
  ·rw[pN (by rw[fu];omega),pN (by rw[k2,lZ];omega)]
 ·obtain⟨i,hi,rfl⟩:=hz aj;exact(Kl i hi).1
def yw{k:IntKind}{t:TypeId}{x:DataW H×List MemPlace}(aw:P.underlying t=some (.int k))(h:DataW.trod enc P W c4 fa held eg t cs=some x):∃ n,cs=[.int k n]/\(Lit.int k n).wf=true:=by obtain⟨n,aa,_,ad⟩:=DataW.trod_int aw h;exact⟨n,aa,ad⟩
def wf_i64{n:Int}(h:(Lit.int .i64 n).wf=true):gy n:=by simp[Lit.wf,IntKind.min,IntKind.max,IntKind.signed,IntKind.bits]at h;exact h
def wf_u64{n:Int}(h:(Lit.int .u64 n).wf=true):gb n:=by simp[Lit.wf,IntKind.min,IntKind.max,IntKind.signed,IntKind.bits]at h;unfold gb;omega
def wf_u8{n:Int}(h:(Lit.int .u8 n).wf=true):0<=n/\n<256:=by simp[Lit.wf,IntKind.min,IntKind.max,IntKind.signed,IntKind.bits]at h;omega
end
section
variable{H:Type}{enc:TypeId×Value->H}{W:World}{c4:Nat}{fa:Nat->Bool}{held:Bool}
def abi{x:DataW H×List MemPlace}(h:DataW.trod enc Tryz.prog W c4 fa held eg 55 cs=some x) :
  ∃ (a:Option Addr) (n c:Nat) (l:List Int),cs=[.slice a n c]/\dZ (pe W) a n c 1 0 (l.map (.int .i64 ·))/\l.length=n/\∀ k∈l,gy k:=by
 obtain⟨a,n,c,l,aa,ad,al,aL,-,-⟩:=Kk (f:=λk=>[Value.int .i64 k]) (size:=1) (by decide) (λ_=>rfl) gy (show Tryz.prog.underlying 55=some (.slice 3) by kernel_rfl) (by kernel_rfl)
  (λeg cs x h=>by
   obtain⟨n,aa,ad⟩:=yw (show Tryz.prog.underlying 3=some (.int .i64) by kernel_rfl) h;exact⟨n,aa,wf_i64 ad⟩) h
 refine⟨a,n,c,l,aa,?_,al,aL⟩;rwa [<-List.map_eq_flatMap]at ad
def abj{l:List α}(h:l.length=4):∃ a b c d,l=[a,b,c,d]:=by
 match l,h with
 |[a,b,c,d],_=>exact⟨a,b,c,d,rfl⟩
def abk{l:List α}(h:l.length=9):∃ a b c d e f g i j,l=[a,b,c,d,e,f,g,i,j]:=by
 match l,h with
 |[a,b,c,d,e,f,g,i,j],_=>exact⟨a,b,c,d,e,f,g,i,j,rfl⟩
def abl{l:List α}(h:l.length=3):∃ a b c,l=[a,b,c]:=by
 match l,h with
 |[a,b,c],_=>exact⟨a,b,c,rfl⟩
def abm{l:List α}(h:l.length=2):∃ a b,l=[a,b]:=by
 match l,h with
 |[a,b],_=>exact⟨a,b,rfl⟩
def abn{l:List α}(h:l.length=1):∃ a,l=[a]:=by
 match l,h with
 |[a],_=>exact⟨a,rfl⟩
def abo{x:DataW H×List MemPlace}(h:DataW.trod enc Tryz.prog W c4 fa held eg 64 cs=some x) :
  ∃ a b c d:Int,cs=[.int .u64 a,.int .u64 b,.int .u64 c,.int .u64 d]/\gb a/\gb b/\gb c/\gb d:=by
 obtain⟨xs,m,_,_,av,l5,hi⟩:=Kc (show Tryz.prog.underlying 64=some (.array 4 62) by kernel_rfl) h;rw[show Tryz.prog.cellsOf 64=4 by kernel_rfl]at av;rw[show Tryz.prog.cellsOf 62=1 by kernel_rfl]at hi;have hu:Tryz.prog.underlying 62=some (.int .u64):=by kernel_rfl
 obtain⟨a,b,c,d,rfl⟩:=abj av;have get:∀ i,(kC:i<4)->∃ n,(([a,b,c,d]:List Value).drop (i*1)).take 1=[.int .u64 n]/\gb n:=λi kC=>by have aa:=hi i kC;rw[dX (by omega)]at aa;obtain⟨n,ad,al⟩:=yw hu aa;exact⟨n,ad,wf_u64 al⟩
 obtain⟨n0,c1,CW⟩:=get 0 (by decide);obtain⟨JI,aA,dS⟩:=get 1 (by decide);obtain⟨QG,a0,ch⟩:=get 2 (by decide);obtain⟨Rx,bY,gI⟩:=get 3 (by decide);simp at c1 aA a0 bY;subst c1 aA a0 bY;exact⟨_,_,_,_,rfl,CW,dS,ch,gI⟩
def CX{t:Nat}{l:List (Nat×Nat)}(h:(match P.underlying t with
  |some (.struct cb)=>decide (cb.toList.map (λf=>(f.type,f.offset))=l)| _=>false)=true):∃ cb,P.underlying t=some (.struct cb)/\cb.toList.map (λf=>(f.type,f.offset))=l:=by
 split at h
 ·rename_i cb hu;exact⟨cb,hu,dV h⟩
 ·cases h
def Gf{P:Program}{l:List (Nat×Nat)}{q:Nat->Nat->Prop}(az:cb.toList.map (λf=>(f.type,f.offset))=l)(h:∀ (i:Nat) (f:Field),cb[i]?=some f->q f.type f.offset):∀ (i t o:Nat),l[i]?=some (t,o)->q t o:=by subst az;intro i t o hi;simp only[mr,qq,Prod.mk.injEq]at hi;obtain⟨f,aa,rfl,rfl⟩:=hi;exact h i f (by simpa using aa)
def Gg{t:TypeId}{x:DataW H×List MemPlace}(aw:P.underlying t=some (.struct cb))(h:DataW.trod enc P W c4 fa held eg t cs=some x) :
  cs.length=P.cellsOf t/\∀ (i:Nat) (f:Field),cb[i]?=some f->∃ eg y,DataW.trod enc P W c4 fa held eg f.type ((cs.drop f.offset).take (P.cellsOf f.type))=some y:=by
 obtain⟨xs,m,_,_,av,l5,hi⟩:=DataW.trod_struct aw h;refine⟨av,λi f az=>?_⟩;have aW:=(j9.1 az).1;have aa:=hi i f az;rw[dX (by omega)]at aa;exact⟨_,_,aa⟩
def abp{x:DataW H×List MemPlace}(h:DataW.trod enc Tryz.prog W c4 fa held eg 66 cs=some x):∃ d:an,cs=d.cells/\wo (pe W) d:=by obtain⟨cb,aw,az⟩:∃ cb,Tryz.prog.underlying 66=some (.struct cb)/\cb.toList.map (λf=>(f.type,f.offset))=[(5,0),(64,1),(9,5),(3,6),(3,7),(55,8)]:=CX (by kernel_rfl);obtain⟨av,hi⟩:=Gg aw h;have hi:∀ (i t o:Nat),[(5,0),(64,1),(9,5),(3,6),(3,7),(55,8)][i]?=some (t,o)->∃ eg y,DataW.trod enc Tryz.prog W c4 fa held eg t ((cs.drop o).take (Tryz.prog.cellsOf t))=some y:=Gf (P:=Tryz.prog) az hi;rw[show Tryz.prog.cellsOf 66=9 by kernel_rfl]at av;obtain⟨uM,hH,ha,p1,Gc,Gd,Rq,alz,alA,rfl⟩:=abk av;obtain⟨_,_,ay⟩:=hi 0 _ _ rfl;obtain⟨_,_,aa⟩:=hi 1 _ _ rfl;obtain⟨_,_,ad⟩:=hi 2 _ _ rfl;obtain⟨_,_,al⟩:=hi 3 _ _ rfl;obtain⟨_,_,aL⟩:=hi 4 _ _ rfl;obtain⟨_,_,bG⟩:=hi 5 _ _ rfl;rw[show Tryz.prog.cellsOf 5=1 by kernel_rfl]at ay;rw[show Tryz.prog.cellsOf 64=4 by kernel_rfl]at aa;rw[show Tryz.prog.cellsOf 9=1 by kernel_rfl]at ad;rw[show Tryz.prog.cellsOf 3=1 by kernel_rfl]at al aL;rw[show Tryz.prog.cellsOf 55=1 by kernel_rfl]at bG;obtain⟨k,c1,abq⟩:=yw (show Tryz.prog.underlying 5=some (.int .u8) by kernel_rfl) ay;obtain⟨a,b,c,d,aA,h4,kV,mF,iL⟩:=abo aa;obtain⟨s,a0,-,ws⟩:=Ka (show Tryz.prog.underlying 9=some .string by kernel_rfl) ad;obtain⟨lo,bY,wl⟩:=yw (show Tryz.prog.underlying 3=some (.int .i64) by kernel_rfl) al;obtain⟨ct,dE,abr⟩:=yw (show Tryz.prog.underlying 3=some (.int .i64) by kernel_rfl) aL;obtain⟨cW,aT,c5,ap,kY,eu,e',zW⟩:=abi bG;simp at c1 aA a0 bY dE kY;obtain⟨Kn,Ko,abt,abu⟩:=aA;subst c1 Kn Ko abt abu a0 bY dE kY;exact⟨⟨k,a,b,c,d,s,lo,ct,cW,aT,c5,ap⟩,rfl,wf_u8 abq,h4,kV,mF,iL,wf_i64 wl,wf_i64 abr,eu,zW,by unfold maxLen at ws;omega⟩
def abv{x:DataW H×List MemPlace}(h:DataW.trod enc Tryz.prog W c4 fa held eg 31 cs=some x):∃ t:bw,cs=t.cells/\Af (pe W) t:=by obtain⟨cb,aw,az⟩:∃ cb,Tryz.prog.underlying 31=some (.struct cb)/\cb.toList.map (λf=>(f.type,f.offset))=[(29,0),(3,1)]:=CX (by kernel_rfl);obtain⟨av,hi⟩:=Gg aw h;have hi:∀ (i t o:Nat),[(29,0),(3,1)][i]?=some (t,o)->∃ eg y,DataW.trod enc Tryz.prog W c4 fa held eg t ((cs.drop o).take (Tryz.prog.cellsOf t))=some y:=Gf (P:=Tryz.prog) az hi;rw[show Tryz.prog.cellsOf 31=2 by kernel_rfl]at av;obtain⟨uM,hH,rfl⟩:=abm av;obtain⟨_,_,ay⟩:=hi 0 _ _ rfl;obtain⟨_,_,aa⟩:=hi 1 _ _ rfl;rw[show Tryz.prog.cellsOf 29=1 by kernel_rfl]at ay;rw[show Tryz.prog.cellsOf 3=1 by kernel_rfl]at aa;obtain⟨a,n,c,l,c1,eu,aJ,bo,-,-⟩:=Kk (f:=an.cells) (size:=9) (by decide) an.da (wo (pe W)) (show Tryz.prog.underlying 29=some (.slice 66) by kernel_rfl) (by kernel_rfl) (λeg cs x h=>abp h) ay;obtain⟨r,aA,wr⟩:=yw (show Tryz.prog.underlying 3=some (.int .i64) by kernel_rfl) aa;simp at c1 aA;subst c1 aA;exact⟨⟨l,a,n,c,r⟩,rfl,eu,bo,wf_i64 wr⟩
def abw{x:DataW H×List MemPlace}(h:DataW.trod enc Tryz.prog W c4 fa held eg 35 cs=some x):∃ d:a2,cs=d.cells/\Ag (pe W) d:=by obtain⟨cb,aw,az⟩:∃ cb,Tryz.prog.underlying 35=some (.struct cb)/\cb.toList.map (λf=>(f.type,f.offset))=[(9,0),(31,1)]:=CX (by kernel_rfl);obtain⟨av,hi⟩:=Gg aw h;have hi:∀ (i t o:Nat),[(9,0),(31,1)][i]?=some (t,o)->∃ eg y,DataW.trod enc Tryz.prog W c4 fa held eg t ((cs.drop o).take (Tryz.prog.cellsOf t))=some y:=Gf (P:=Tryz.prog) az hi;rw[show Tryz.prog.cellsOf 35=3 by kernel_rfl]at av;obtain⟨uM,hH,ha,rfl⟩:=abl av;obtain⟨_,_,ay⟩:=hi 0 _ _ rfl;obtain⟨_,_,aa⟩:=hi 1 _ _ rfl;rw[show Tryz.prog.cellsOf 9=1 by kernel_rfl]at ay;rw[show Tryz.prog.cellsOf 31=2 by kernel_rfl]at aa;obtain⟨s,c1,-,ws⟩:=Ka (show Tryz.prog.underlying 9=some .string by kernel_rfl) ay;obtain⟨t,aA,aw⟩:=abv aa;simp[bw.cells]at c1 aA;obtain⟨Kn,Ko⟩:=aA;subst c1 Kn Ko;exact⟨⟨s,t⟩,rfl,by unfold maxLen at ws;exact ws,aw⟩
def abx{x:DataW H×List MemPlace}(h:DataW.trod enc Tryz.prog W c4 fa held eg 24 cs=some x):∃ g:eo,cs=[.slice g.a g.n g.c]/\r' (pe W) g:=by obtain⟨cb,aw,az⟩:∃ cb,Tryz.prog.underlying 24=some (.struct cb)/\cb.toList.map (λf=>(f.type,f.offset))=[(22,0)]:=CX (by kernel_rfl);obtain⟨av,hi⟩:=Gg aw h;have hi:∀ (i t o:Nat),[(22,0)][i]?=some (t,o)->∃ eg y,DataW.trod enc Tryz.prog W c4 fa held eg t ((cs.drop o).take (Tryz.prog.cellsOf t))=some y:=Gf (P:=Tryz.prog) az hi;rw[show Tryz.prog.cellsOf 24=1 by kernel_rfl]at av;obtain⟨uM,rfl⟩:=abn av;obtain⟨_,_,ay⟩:=hi 0 _ _ rfl;rw[show Tryz.prog.cellsOf 22=1 by kernel_rfl]at ay;obtain⟨a,n,c,l,c1,eu,aJ,bo,-,-⟩:=Kk (f:=a2.cells) (size:=3) (by decide) a2.da (Ag (pe W)) (show Tryz.prog.underlying 22=some (.slice 35) by kernel_rfl) (by kernel_rfl) (λeg cs x h=>abw h) ay;exact⟨⟨l,a,n,c⟩,c1,eu,bo⟩
def aby{w:World}{r:Reach}{c4 t:Nat}(aw:P.underlying t=some (.struct cb))(h:Value.okWide P w r c4 t v):∃ cs,v=.agg cs:=by obtain⟨cs,aa,-⟩:=Go.WideShapes.okWide_struct aw h;exact⟨cs,aa⟩
def abz{W:World}{c4:Nat}{d:DataW H}{p:List MemPlace}(h:DataW.Trod enc Tryz.prog W 0 (λ_=>true) true 24 v d p)(ag:Value.okWide Tryz.prog W .any c4 24 v):∃ g:eo,v=g.val/\r' (pe W) g:=by obtain⟨cb,aw,-⟩:=CX (P:=Tryz.prog) (t:=24) (l:=[(22,0)]) (by kernel_rfl);obtain⟨cs,rfl⟩:=aby aw ag;obtain⟨eg,az⟩:=h;obtain⟨g,e,ax⟩:=abx az;refine⟨g,?_,ax⟩;have cM:cs.toList=[.slice g.a g.n g.c]:=e;cases cs;simp only at cM;subst cM;rfl
end
def Ry{H:Type}{enc:TypeId×Value->H}{P:Program}(av:laidOutB P=true){W jy:World}(ae:yu W jy):∀ {eX:List TypeId} {vs:List Value} {ds:List (DataW H)} {ps:List MemPlace},(∀ t∈eX,P.readableRec t=true/\t<P.types.size) -> DataW.TrodAll enc P W 0 (λ_=>true) true eX vs ds ps->(∀ p∈ps,p.block<W.heap.size)->∀ fa:Nat->Bool,(∀ p∈ps,fa p.block=true)->DataW.TrodAll enc P jy 0 fa true eX vs ds ps
 |[],[],[],_,_,h,_,_,_=>h
 |t::eX,v::vs,d::ds,_,aw,⟨p,q,aa,ad,e⟩,aW,fa,ar=>by
  subst e;refine⟨p,q,?_,?_,rfl⟩
  ·refine Go.WideElems.Trod_stays av (aw t (.head _)).1 (aw t (.head _)).2 aa (λx ab=>?_) (λx ab=>ar x (cO.2 (.inl ab)));have cy:=aW x (cO.2 (.inl ab));cases x with
   |cell b o=>exact World.cell?_of_block (w:=W) (ae.dA b cy)| map b=>exact ae.dA b cy
  ·exact Ry av ae (λt h=>aw t (.tail _ h)) ad (λx ab=>aW x (cO.2 (.inr ab))) fa (λx ab=>ar x (cO.2 (.inr ab)))
def abA:mapsRowed Tryz.prog=true:=by kernel_rfl
def abB:Tryz.prog.stopsHeard=true:=by kernel_rfl
def abC:Tryz.prog.mayEnter=true:=by kernel_rfl
def Kp:gb 0:=⟨by decide,by decide⟩
def i0:gy 0:=⟨by decide,by decide⟩
def Kq{bm:Int}:∀ {s:List Bool} {i j:Nat},j<s.length->(s.getD j false == decide (((i+j:Nat):Int)=bm))=true->o1 bm i s=false
 |b::s,i,0,_,h=>by unfold o1;rw[show(b == decide ((i:Int)=bm))=true by simpa using h];rfl
 |b::s,i,j+1,ai,h=>by
  unfold o1;cases b == decide ((i:Int)=bm)with
  |true=>rfl| false=>simp only[b0];refine Kq (j:=j) (by simpa using ai) ?_;rw[show i+1+j=i+(j+1) by omega];simpa using h
def Rz{bm:Int}:∀ {s:List Bool} {i:Nat},(∀ j,j<s.length->(s.getD j false == decide (((i+j:Nat):Int)=bm))=false)->o1 bm i s=true
 |[],i,h=>rfl| b::s,i,h=>by unfold o1;have ay:=h 0 (by simp);rw[show(b == decide ((i:Int)=bm))=false by simpa using ay];simp only[b0];refine Rz λj ai=>?_;have:=h (j+1) (by simpa using ai);rw[show i+1+j=i+(j+1) by omega];simpa using this
def aU.CY{b:Nat}(h:os.ok size xs)(ah:os.n*b<=140737488355328)(bC:∀ g,os.a=some g->I g=none/\g ∉ foot)(Mr:List aE) :
  ∃ I',(∀ eE dB,hY foot I' Mr eE dB->hY foot I (os.aq e++Mr) eE dB)/\(∀ b o,I b=some o->I' b=some o)/\dZ I' (os.a.map λg=>⟨g,0,none⟩) os.n os.c size b xs/\(∀ g,os.a≠some g->I' g=I g):=by
 obtain⟨a,n,c,aS⟩:=os;cases a with
 |none=>obtain⟨aa,ad⟩:=h.nil rfl;simp only at aa ad;subst aa;subst ad;exact⟨I,λ_ _ k=>k,λ_ _ h=>h,⟨h.len,⟨cI _,by simp⟩,.inl rfl⟩,λ_ _=>rfl⟩
 |some g=>obtain⟨aa,ad,al,aL⟩:=h.cap g rfl;obtain⟨ax,abD⟩:=bC g rfl;refine⟨ins I g (.cells aS.toArray e (0,0)),λ_ _ k=>.vt rfl abD k,z2 ax,⟨h.len,⟨ad,ah⟩,.inr ⟨⟨g,0,none⟩,rfl,rfl,_,_,_,z1 ..,by simpa using aL⟩⟩,λcN jn=>?_⟩;have:cN≠g:=λe=>jn (by rw[e]);unfold ins;simp only[g0 this,b0]
def RA{ys:List Value}(cC:os.ok size xs){g:Nat}{aS:List Value}(aD:ys.length=size)(aa:aS.length=c*size)(ad:os.n+1<=c)(al:c<=maxLen)(aL:aS.take ((os.n+1)*size)=xs++ys) :
  aU.ok ⟨some g,os.n+1,c,aS⟩ size (xs++ys):=by
 have av:=cC.len;refine⟨?_,(λh=>by cases h),λb4 n5=>⟨aa,ad,al,aL⟩⟩;rw[cL,av,aD];simp only;rw[ke,oO]
def je(ns:List an):Int->Nat:=gM 0 (λd g=>1+fz g d.ap) ns
def wu(af:right t=true){j:Nat}(ai:j<t.ns.length):je t.ns j=1+fz (je t.ns) t.ns[j].ap:=
 ux (λd g cN h=>by rw[QX h]) af ai
def abE(af:right t=true):je t.ns t.bm<=t.ns.length:=by
 have:=JC af (g:=je t.ns) (c:=λ_=>1) λj ai=>by rw[wu af ai];exact cI _
 rwa [FO,oO]at this
def RB{i:Nat}:∀ {ks:List Int} {s bP:List Bool},jt i ks s=some bP->∀ j,bP.getD j false=true->s.getD j false=true\/((j:Int)∈ks/\j<i)
 |[],s,bP,h,j,ai=>by simp only[jt,jl]at h;subst h;exact .inl ai
 |k::ks,s,bP,h,j,ai=>by
  unfold jt at h;cases ah:decide (k<0)||(decide ((i:Int)<=k)||s.getD k.toNat false)with
  |true=>rw[ah]at h;cases h
  |false=>
   rw[ah]at h;simp only[b0]at h;simp only[qN,pM]at ah;rcases RB h j ai with aa | aa
   ·by_cases e:k.toNat=j
    ·right
     refine⟨?_,by omega⟩;have:(j:Int)=k:=by omega
     rw[this];exact .head _
    ·left
     simp only[cv,kl]at aa |-;rwa [ca e]at aa
   ·exact .inr ⟨.tail _ aa.1,aa.2⟩
def RC:∀ {ds:List an} {i:Nat} {s bP:List Bool},h5 i ds s=some bP->∀ j,bP.getD j false=true->s.getD j false=true\/∃ q,∃ h:q<ds.length,(j:Int)∈ds[q].ap/\j<i+q
 |[],i,s,bP,h,j,ai=>by simp only[h5,jl]at h;subst h;exact .inl ai
 |d::ds,i,s,bP,h,j,ai=>by
  unfold h5 at h;cases az:fits d d.ap.length with
  |false=>rw[az]at h;cases h
  |true=>
   rw[az]at h;simp only[bZ]at h;split at h
   ·rename_i s1 fc;rcases RC h j ai with aa | ⟨q,aK,aa,ad⟩
    ·rcases RB fc j aa with al | ⟨al,aL⟩
     ·exact .inl al
     ·exact .inr ⟨0,by simp,al,by omega⟩
    ·exact .inr ⟨q+1,by simpa using aK,by simpa using aa,by omega⟩
   ·cases h
def RD(af:right t=true){j:Nat}(ai:j<t.ns.length)(bs:(j:Int)≠t.bm):∃ p,∃ h:p<t.ns.length,(j:Int)∈t.ns[p].ap/\j<p:=by
 unfold right at af;simp only[b']at af;obtain⟨_,_,af⟩:=af;split at af
 ·rename_i s ar;have hp:=(JB (g:=λ_=>0) (c:=λ_=>0) ar (by simp) (λj ai=>by simp)).1;have hm:s.getD j false=true:=by
   cases ah:s.getD j false with
   |true=>rfl| false=>have:=Kq (bm:=t.bm) (s:=s) (i:=0) (j:=j) (by rw[hp];simpa using ai) (by rw[ah,c9];simp[bs]);rw[this]at af;cases af
  rcases RC ar j hm with aa | ⟨q,aK,aa,ad⟩;·simp[cv,ai]at aa
  ·exact⟨q,aK,aa,by omega⟩
 ·cases af
def RE{g:Int->Nat}:∀ {ks:List Int} {k:Int},k∈ks->g k<=fz g ks
 |a::ks,k,h=>by
  simp only[fz,cc,jb];rcases dW.1 h with rfl | h;·omega
  ·have:=RE (g:=g) h;simp only[fz]at this;omega
def yx{t:bw}(af:right t=true):∀ (m j:Nat),j<t.ns.length->t.ns.length-j<=m->je t.ns j<=t.ns.length
 |0,j,ai,hm=>by omega
 |m+1,j,ai,hm=>by
  by_cases e:(j:Int)=t.bm;·rw[e];exact abE af
  ·obtain⟨p,aO,ae,aW⟩:=RD af ai e;have aa:=yx af m p aO (by omega);rw[wu af aO]at aa;have:=RE (g:=je t.ns) ae;omega
def CZ(g:Int->Nat)(a b:List Int):fz g (a++b)=fz g a+fz g b:=by simp[fz]
def Gh{t:bw}(af:right t=true):∀ {l:List Int},valid t.ns.length l->l.length<=fz (je t.ns) l
 |[],_=>by simp
 |a::l,ag=>by have aa:=Gh af (l:=l) λk ae=>ag k (.tail _ ae);have ad:=ag a (.head _);obtain⟨a,rfl⟩:=eN ad.1;have al:=wu af (j:=a) (by omega);simp only[fz,cc,jb,ea]at aa |-;have aL:je t.ns (Int.ofNat a)=je t.ns a:=rfl;omega
def uN(ns:List an):Nat->List Int->List Int->List Int
 |0,_,b=>b
 |f+1,todo,b=>match todo.getLast? with
  |none=>b| some n=>uN ns f (todo.dropLast++(nodeAt ns n.toNat).ap) (b++[n])
def yy(ns:List an)(node:Int):List Int:=uN ns (ns.length+1) [node] []
def RF(ns:List an)(f:Nat)(b:List Int):uN ns f [] b=b:=by cases f<;>rfl
def RG(ns:List an)(f:Nat)(todo:List Int)(n:Int)(b:List Int):uN ns (f+1) (todo++[n]) b=uN ns f (todo++(nodeAt ns n.toNat).ap) (b++[n]):=by rw[uN];simp only[List.getLast?_concat,List.dropLast_concat]
def an.a6(d:an):an:=⟨d.k,d.b3,d.s1,d.s2,d.cm,d.t,d.lo,d.hi,none,0,0,d.ap⟩
def an.cA(d:an)(l:List Int):an:=⟨d.k,d.b3,d.s1,d.s2,d.cm,d.t,d.lo,d.hi,none,0,0,l⟩
def Gi(ns:List an)(aN:List Int×List an)(b:Int):List Int×List an:=
 (aN.1.set b.toNat aN.2.length,aN.2++[(nodeAt ns b.toNat).cA ((nodeAt ns b.toNat).ap.map λk=>(aN.1.set b.toNat aN.2.length).getD k.toNat 0)])
def qa(ns:List an)(node:Int):List an:=((yy ns node).reverse.foldl (Gi ns) (List.replicate ns.length 0,[])).2
def aU.pop{x:Value}(h:os.ok 1 (xs++[x])):aU.ok ⟨os.a,os.n-1,os.c,os.aS⟩ 1 xs:=by
 have av:=h.len;simp only[cL,ea,gL,gV]at av;refine⟨by simp only;omega,λaY=>?_,λg ax=>?_⟩
 ·have:=h.nil aY;simp only;omega
 ·obtain⟨aa,ad,al,aL⟩:=h.cap g ax;refine⟨aa,by simp only;omega,al,?_⟩;simp only;have e:os.n*1=xs.length+1:=by omega
  rw[e]at aL;have:os.aS.take xs.length=(os.aS.take (xs.length+1)).take xs.length:=by rw[xU];congr 1;omega
  rw[show(os.n-1)*1=xs.length by omega,this,aL,vG]
structure abF(t:bw)(node:Int)(x:aU×List Int×aU×List Int×Nat):Prop where
 todo:x.1.ok 1 (x.2.1.map (.int .i64 ·))
 back:x.2.2.1.ok 1 (x.2.2.2.1.map (.int .i64 ·))
 alB:valid t.ns.length x.2.1
 alC:valid t.ns.length x.2.2.2.1
 sum:fz (je t.ns) x.2.1+x.2.2.2.1.length=je t.ns node
 eg:fz (je t.ns) x.2.1+1<=x.2.2.2.2
 eq:yy t.ns node=uN t.ns x.2.2.2.2 x.2.1 x.2.2.2.1
structure RH(I:aM)(t:bw)(rb:List Int)(x:Nat×List Int×aU×List an×aM):Prop where
 j:x.1<=rb.length
 len:x.2.1.length=t.ns.length
 out:x.2.2.1.ok 9 (x.2.2.2.1.flatMap an.cells)
 on:x.2.2.2.1.length=x.1
 eq:(rb.take x.1).foldl (Gi t.ns) (List.replicate t.ns.length 0,[])=(x.2.1,x.2.2.2.1.map an.a6)
 ok:∀ d∈x.2.2.2.1,d.ok x.2.2.2.2
 le:∀ b o,I b=some o->x.2.2.2.2 b=some o
 C0:∀ c∈x.2.1,0<=c/\c<=rb.length
 Kr:∀ d∈x.2.2.2.1,∀ k∈d.ap,0<=k/\k<=rb.length
structure aI where
 z:Bool
 s:Bool
 f:Bool
 deriving DecidableEq
def aI.cells(x:aI):List Value:=[.bool x.z,.bool x.s,.bool x.f]
def aI.val(x:aI):Value:=.agg #[.bool x.z,.bool x.s,.bool x.f]
def aI.da(x:aI):x.cells.length=3:=rfl
def aI.jf(x:aI):Bool:=x.z||x.s
def abG(x y:aI)(p q:Operand)(w:World):(do eqGuard .neq 270 p q x.val y.val;binOp .neq 270 x.val y.val:Sem Value).run Tryz.prog w=.ok (.bool (!decide (x=y))) w:=by
 obtain⟨a,b,c⟩:=x;obtain⟨d,e,f⟩:=y;cases a<;>cases b<;>cases c<;>cases d<;>cases e<;>cases f<;>kernel_rfl
def ft.RI{p q:aI}{V:Value->Prop}(h:V (.bool (!decide (p=q)))):ft Tryz.prog .neq 270 x y (.val (.agg #[.bool p.z,.bool p.s,.bool p.f])) (.val (.agg #[.bool q.z,.bool q.s,.bool q.f])) V other:=
 .mk _ _ _ rfl rfl (λw=>abG p q x y w) h
def Ks{s f:Bool}{x:aI}(aa:z=x.z)(ad:s=x.s)(al:f=x.f):Value.agg #[.bool z,.bool s,.bool f]=x.val:=by subst aa ad al;rfl
def RJ{s f:Bool}{x:aI}(aa:z=x.z)(ad:s=x.s)(al:f=x.f):[Value.bool z,Value.bool s,Value.bool f]=x.cells:=by subst aa ad al;rfl
def abH{a b:Bool}(h:a=b):vz (.val (.bool a)) (.val (.bool b)):=by subst h;exact .refl
def Gj{a b:Bool}(h:a=b):vz (.lit a) (.val (.bool b)):=by subst h;exact .lit
def perm_nil:M.Perm (M++[]):=by simp
def ft.abI{E:Env}(aG:cw P E){t:Nat}(aw:E t=some c8)(dQ:c8.bE=.array 4 e)(he:E e=some aB){k:IntKind}(kF:aB.bE=.int k)(ax:P.eqGuardType P.depth t=false){e7 cf dw dM pS b1 cd fF:Int}{V:Value->Prop}
  (h:V (.bool (!(e7 == pS&&(cf == b1&&(dw == cd&&dM == fF)))))):ft P .neq t x y (.val (.agg #[.int k e7,.int k cf,.int k dw,.int k dM])) (.val (.agg #[.int k pS,.int k b1,.int k cd,.int k fF])) V other:=by
 obtain⟨d,e0,eF⟩:=(aG _ _ aw).eW;obtain⟨n2,Jh,Ji⟩:=(aG _ _ he).eW;obtain⟨inf,z,hi,fq,_⟩:=(aG _ _ he).inf;have aa:d=.array 4 e:=by rw[dQ]at eF;cases d<;>simp_all[eR]
 have ad:n2=.int k:=by rw[kF]at Ji;cases n2<;>simp_all[eR]
 subst aa;subst ad;have fc:inf.size=1:=by rw[fq];exact(aG _ _ he).EU (by rw[kF];rfl)
 refine .mk _ _ _ rfl rfl (λw=>?_) h;simp only[bV,run_eqGuard_agg (hm:=ax),bN,binOp,PY e0 Jh hi fc,cH]
def Kt(x:aI):Spec Tryz.prog 283 [x.val] I M λv I' M'=>v=.bool x.jf/\I'=I/\M'=M:=by
 obtain⟨a,b,c⟩:=x;refine cp [] a4 Tryz.func283 rfl rfl rfl ?_;intro B ay;refine cP.mk (λh=>?_) (λh=>?_)
 ·exact⟨_,_,.refl,by rw[show a=false from h];rfl,rfl,rfl⟩
 ·exact⟨_,_,.refl,by rw[show a=true from h];rfl,rfl,rfl⟩
structure lK(I:aM)(M:List aE)(a:Option Addr)(n:Nat)(ks:List aI):Prop where
 n:ks.length=n
 rd:∀ j (h:j<ks.length),∃ aV,a=some aV/\c7 I M (aV.add (j*3)) 3 ks[j].cells
def jA(aN:aI×Bool)(k:aI):aI×Bool:=(⟨aN.1.z&&k.z,aN.1.s||k.s,aN.1.f||(aN.2&&k.f)⟩,aN.2&&k.jf)
def gP(ks:List aI):aI×Bool:=ks.foldl jA (⟨true,false,false⟩,true)
def gQ(ks:List aI):aI:=⟨(gP ks).1.z,(gP ks).1.s&&(gP ks).2,(gP ks).1.f⟩
def mT(f k:aI):aI:=⟨f.z||(f.f&&k.z),f.s||(f.f&&k.s),f.f&&k.f⟩
def od(ks:List aI):aI:=ks.foldl mT ⟨false,false,true⟩
def bK:aI:=⟨false,false,false⟩
def uO(d:an)(k:aI):aI:=bif decide (d.hi=0)then⟨true,false,false⟩else⟨k.z||(decide (d.lo=0)&&k.f),k.s,decide (0<d.lo)&&k.f⟩
def fH(d:an)(ks:List aI):aI:=
 bif decide (d.k=0)then⟨true,false,false⟩else
 bif decide (d.k=1)then⟨false,!d.o0,true⟩else
 bif decide (d.k=2)then⟨false,true,true⟩else
 bif decide (d.k=3)then ks.headD bK else
 bif decide (d.k=4)then gQ ks else
 bif decide (d.k=5)then od ks else
 bif decide (d.k=6)then uO d (ks.headD bK)else
 bif decide (d.k=7)then⟨(ks.headD bK).jf,false,(ks.headD bK).f⟩else
 bif decide (d.k=8)then⟨(ks.headD bK).f,false,(ks.headD bK).jf⟩else ks.headD bK
section
variable{I:aM}{M:List aE}{d:an}{a:Option Addr}{n c:Nat}{ks:List aI}
def lK.head(ae:lK I M a n ks)(ay:0<n):∃ aV,a=some aV/\c7 I M (aV.add (0*3)) 3 (ks.headD bK).cells:=by
 have aa:0<ks.length:=by rw[ae.n];exact ay
 obtain⟨aV,ad,al⟩:=ae.rd 0 aa;refine⟨aV,ad,?_⟩;cases ks with
 |nil=>simp at aa| cons k ks=>exact al
def abJ:Spec Tryz.prog 263 [d.val,.slice a n c] I M λv I' M'=>v=aI.val ⟨true,false,false⟩/\I'=I/\M'=M:=by refine cp [] a4 Tryz.func263 rfl rfl rfl ?_;intro B ay;exact⟨_,_,.refl,rfl,rfl,rfl⟩
def abK:Spec Tryz.prog 265 [d.val,.slice a n c] I M λv I' M'=>v=aI.val ⟨false,true,true⟩/\I'=I/\M'=M:=by refine cp [] a4 Tryz.func265 rfl rfl rfl ?_;intro B ay;exact⟨_,_,.refl,rfl,rfl,rfl⟩
def RK(ae:lK I M a n ks)(ay:0<n):Spec Tryz.prog 266 [d.val,.slice a n c] I M λv I' M'=>v=(ks.headD bK).val/\I'=I/\M'=M:=by refine cp [] a4 Tryz.func266 rfl rfl rfl ?_;intro B iK;obtain⟨aV,bU,bB⟩:=ae.head ay;refine bu.mk aV 0 bU rfl ay ?_;refine aZ.mk _ bB ?_;exact⟨_,_,.refl,rfl,rfl,rfl⟩
def abL(ae:lK I M a n ks)(ay:0<n):Spec Tryz.prog 270 [d.val,.slice a n c] I M λv I' M'=>v=aI.val ⟨(ks.headD bK).jf,false,(ks.headD bK).f⟩/\I'=I/\M'=M:=by refine cp [] a4 Tryz.func270 rfl rfl rfl ?_;intro B iK;obtain⟨aV,bU,bB⟩:=ae.head ay;refine dh.draw a4 rfl rfl rfl ?_;refine bu.mk aV 0 bU rfl ay ?_;refine aZ.mk _ bB ?_;refine bu.mk aV 0 bU rfl ay ?_;refine aZ.mk _ (bB.part (k:=2) (m:=1) (by decide)) ?_;refine fv.mD M [] _ perm_nil (Kt (ks.headD bK)) (λv I' M' h x ab=>by rw[h.2.2];exact ab) ?_;rintro v I' M' -⟨rfl,rfl,rfl⟩;rw[ee];exact⟨_,_,.refl,rfl,rfl,rfl⟩
def abM(ae:lK I M a n ks)(ay:0<n):Spec Tryz.prog 271 [d.val,.slice a n c] I M λv I' M'=>v=aI.val ⟨(ks.headD bK).f,false,(ks.headD bK).jf⟩/\I'=I/\M'=M:=by refine cp [] a4 Tryz.func271 rfl rfl rfl ?_;intro B iK;obtain⟨aV,bU,bB⟩:=ae.head ay;refine dh.draw a4 rfl rfl rfl ?_;refine bu.mk aV 0 bU rfl ay ?_;refine aZ.mk _ (bB.part (k:=2) (m:=1) (by decide)) ?_;refine bu.mk aV 0 bU rfl ay ?_;refine aZ.mk _ bB ?_;refine fv.mD M [] _ perm_nil (Kt (ks.headD bK)) (λv I' M' h x ab=>by rw[h.2.2];exact ab) ?_;rintro v I' M' -⟨rfl,rfl,rfl⟩;rw[ee];exact⟨_,_,.refl,rfl,rfl,rfl⟩
def abN:Spec Tryz.prog 264 [d.val,.slice a n c] I M λv I' M'=>v=aI.val ⟨false,!d.o0,true⟩/\I'=I/\M'=M:=by refine cp [] a4 Tryz.func264 rfl rfl rfl ?_;intro B ay;refine ft.abI a4 (e:=62) rfl rfl rfl rfl (by kernel_rfl) ?_;exact⟨_,_,.refl,rfl,rfl,rfl⟩
def abO(ae:lK I M a n ks)(ay:0<n):Spec Tryz.prog 269 [d.val,.slice a n c] I M λv I' M'=>v=(uO d (ks.headD bK)).val/\I'=I/\M'=M:=by
 refine cp [] a4 Tryz.func269 rfl rfl rfl ?_;intro B iK;obtain⟨aV,bU,bB⟩:=ae.head ay;generalize ks.headD bK=k at bB;obtain⟨Ku,Kv,Kw⟩:=k;refine a9.mk (λh=>?_) (λh=>?_)
 ·refine⟨_,_,.refl,Ks ?_ ?_ ?_,rfl,rfl⟩<;>simp[uO,h]
 refine bu.mk aV 0 bU rfl ay ?_;refine aZ.mk _ bB ?_
 repeat' refine cP.mk (λh=>?_) (λh=>?_)
 all_goals refine⟨_,_,.refl,Ks ?_ ?_ ?_,rfl,rfl⟩
 all_goals first | (simp_all[uO];done) | (simp_all[uO];intros;omega)
def abP(ae:lK I M a n ks)(aJ:n<=140737488355328):Spec Tryz.prog 268 [d.val,.slice a n c] I M λv I' M'=>v=(od ks).val/\I'=I/\M'=M:=by
 refine cp [] a4 Tryz.func268 rfl rfl rfl ?_;intro B iK;have e':=ae.n;refine dI.inv (ι:=Nat×aI) (λx=>{ bn:=[(4,.ref 4 0),(5,.ref 5 0),(9,.val (.slice a n c)),(10,.val (.int .i64 n)),(11,.val (.int .i64 x.1))],cl:=[(4,bK.cells),(5,x.2.cells)],c2:=I,dx:=M }) (λx=>x.1<=n/\x.2=(ks.take x.1).foldl mT ⟨false,false,true⟩) (λx=>n-x.1) ?_ ?_
 ·exact⟨(0,⟨false,false,true⟩),⟨dO _,rfl⟩,.refl,iJ,.cons rfl (.cons rfl .nil)⟩
 rintro⟨i,f⟩⟨hi,az⟩;simp only at hi az;refine a9.mk (λh=>?_) (λh=>?_)
 rotate_left
 ·have cV:n<=i:=by have:=eO h;omega
  refine⟨_,_,.refl,?_,rfl,rfl⟩;rw[fT (by omega)]at az;rw[od,<-az];rfl
 have aW:i<n:=by have:=dV h;omega
 obtain⟨aV,bU,bB⟩:=ae.rd i (by omega);have hL:∀ g:aI,g=mT f (ks[i]'(by omega))->g=(ks.take (i+1)).foldl mT ⟨false,false,true⟩:=λg ax=>by rw[gD (by omega),q0,<-az,ax];rfl
 generalize ks[i]'(by omega)=k at bB hL;obtain⟨Ku,Kv,Kw⟩:=k;obtain⟨z,s,Kx⟩:=f;refine bu.mk aV i bU rfl aW ?_;refine aZ.mk _ bB ?_
 repeat' refine cP.mk (λh=>?_) (λh=>?_)
 all_goals refine bi.mk _ (de (i:=i) (by omega)) ?_
 all_goals refine⟨(i+1,_),⟨⟨by simp only;omega,hL _ rfl⟩,by simp only;omega⟩,.refl,iJ,.cons rfl (.cons ?_ .nil)⟩
 all_goals clear hL az bB
 all_goals (refine congrArg some (RJ ?_ ?_ ?_)<;>simp_all[mT])
def abQ(l:List aI)(k:aI):gP (l++[k])=jA (gP l) k:=by simp[gP]
def abR(ae:lK I M a n ks)(aJ:n<=140737488355328):Spec Tryz.prog 267 [d.val,.slice a n c] I M λv I' M'=>v=(gQ ks).val/\I'=I/\M'=M:=by
 refine cp [] a4 Tryz.func267 rfl rfl rfl ?_;intro B iK;have e':=ae.n;refine dI.inv (ι:=Nat×aI×Bool) (λx=>{ bn:=[(4,.ref 4 0),(5,.ref 5 0),(6,.val (.bool x.2.2)),(10,.val (.slice a n c)),(11,.val (.int .i64 n)),(12,.val (.int .i64 x.1))],cl:=[(4,bK.cells),(5,x.2.1.cells)],c2:=I,dx:=M }) (λx=>x.1<=n/\x.2=gP (ks.take x.1)) (λx=>n-x.1) ?_ ?_
 ·exact⟨(0,⟨true,false,false⟩,true),⟨dO _,rfl⟩,.refl,.cons .refl (.cons .refl (.cons .lit (g1))),.cons rfl (.cons rfl .nil)⟩
 rintro⟨i,f,RL⟩⟨hi,az⟩;simp only at hi az;refine a9.mk (λh=>?_) (λh=>?_)
 rotate_left
 ·have cV:n<=i:=by have:=eO h;omega
  rw[fT (by omega)]at az;obtain⟨z,s,Kx⟩:=f;have aA:(gP ks).1=⟨z,s,Kx⟩:=by rw[<-az]
  have a0:(gP ks).2=RL:=by rw[<-az]
  refine cP.mk (λad=>?_) (λad=>?_)
  all_goals refine⟨_,_,.refl,Ks ?_ ?_ ?_,rfl,rfl⟩
  all_goals simp_all[gQ]
 have aW:i<n:=by have:=dV h;omega
 obtain⟨aV,bU,bB⟩:=ae.rd i (by omega);have hL:∀ g:aI×Bool,g=jA (f,RL) (ks[i]'(by omega))->g=gP (ks.take (i+1)):=λg ax=>by rw[gD (by omega),abQ,<-az,ax]
 generalize ks[i]'(by omega)=k at bB hL;obtain⟨Ku,Kv,Kw⟩:=k;obtain⟨z,s,Kx⟩:=f;refine bu.mk aV i bU rfl aW ?_;refine aZ.mk _ bB ?_
 repeat' first
  |refine cP.mk (λh=>?_) (λh=>?_)|(refine bd.mk M [] _ perm_nil (Kt ⟨Ku,Kv,Kw⟩) ?_;rintro v I' M' -⟨rfl,rfl,rfl⟩;rw[ee])
 all_goals refine bi.mk _ (de (i:=i) (by omega)) ?_
 all_goals refine⟨(i+1,_),⟨⟨by simp only;omega,hL _ rfl⟩,by simp only;omega⟩,.refl,.cons .refl (.cons .refl (.cons ?_ (g1))),.cons rfl (.cons ?_ .nil)⟩
 all_goals clear hL az bB
 all_goals first
  |(refine congrArg some (RJ ?_ ?_ ?_)<;>simp_all[jA])|(refine abH ?_;simp_all[jA])|(refine Gj ?_;simp_all[jA])
end
def kq(t:bw):List an:=qa t.ns t.bm
def c7.mono{a:Addr}{n:Nat}(h:c7 I M a n vs)(bC:∀ b o,I b=some o->I' b=some o):c7 I' M a n vs:=by obtain⟨aa,cs,T,ak,ad,al⟩:=h;exact⟨aa,cs,T,ak,ad.imp (bC _ _) id,al⟩
def c7.sub{I:aM}{M M':List aE}{a:Addr}{n:Nat}{vs:List Value}(h:c7 I M a n vs)(a3:∀ x∈M,x∈M'):c7 I M' a n vs:=by obtain⟨aa,cs,T,ak,ad,al⟩:=h;refine⟨aa,cs,T,ak,ad.imp id ?_,al⟩;rintro⟨x,ab,aA,a0⟩;exact⟨x,a3 x ab,aA,a0⟩
def hQ(aN:List an×List Int)(l:List an):List an×List Int:=
 (aN.1++l.map (λx=>x.cA (x.ap.map λk=>(aN.1.length:Int)+k)),aN.2++[((aN.1.length+l.length:Nat):Int)-1])
def pf(d:an)(e3:List (List an)):List an:=(e3.foldl hQ ([],[])).1++[d.cA (e3.foldl hQ ([],[])).2]
structure abS(I:aM)(L:List bw)(x:Nat×aU×List an×aU×List Int×aM):Prop where
 i:x.1<=L.length
 out:x.2.1.ok 9 (x.2.2.1.flatMap an.cells)
 b2:x.2.2.2.1.ok 1 (x.2.2.2.2.1.map (.int .i64 ·))
 eC:x.2.2.2.2.1.length=x.1
 eq:((L.take x.1).map kq).foldl hQ ([],[])=(x.2.2.1.map an.a6,x.2.2.2.2.1)
 ok:∀ d∈x.2.2.1,d.ok x.2.2.2.2.2
 le:∀ b o,I b=some o->x.2.2.2.2.2 b=some o
 n:x.2.2.1.length<=((L.take x.1).map (·.n)).sum
 Kr:∀ k∈x.2.2.2.2.1,-1<=k/\k<=((L.take x.1).map (·.n)).sum
def RM(L:List bw)(i:Nat):((L.take i).map (·.n)).sum<=(L.map (·.n)).sum:=by have h:=congrArg (λl:List bw=>(l.map (·.n)).sum) (qM i L);simp only[dc,rR]at h;omega
def RN(L:List bw)(i:Nat)(hi:i<L.length):((L.take (i+1)).map (·.n)).sum=((L.take i).map (·.n)).sum+L[i].n:=by rw[gD hi,dc,rR];simp
section
variable{X:cB}{β:Nat->Nat}{a:Act}{w:World}{F:Fr}{C:dp}{I:aM}{M:List aE}{o:Oper}{Q:Exit->Act->World->Prop}{K:fD}
def RO(aG:cw X.P X.E){t:Nat}{k:Nat}(aw:X.E t=some c8)(dQ:c8.bE=.map k e)(ae:X.E k=some qP)(fl:qP.bE=.string)(a':∀ w,(zeroValue e).run X.P w=.ok (.int .i64 0) w){g:Nat}{l:List (ByteArray×Int)}(ax:w.heap[g]?=some (h8 l))(ok:Bool) :
  (Instr.lookup t (.map (some g)) (.string s) ok).run X.P w=.ok (bif ok then .tuple #[.int .i64 ((dz s l).getD 0),.bool (dz s l).isSome]else .int .i64 ((dz s l).getD 0)) w:=by
 obtain⟨d,e0,eF⟩:=(aG _ _ aw).eW;have aa:d=.map k e:=by rw[dQ]at eF;cases d<;>simp_all[eR]
 subst aa;obtain⟨c6,p6,fS⟩:=(aG _ _ ae).eW;have ad:c6=.string:=by rw[fl]at fS;cases c6<;>simp_all[eR]
 subst ad;have ax:w.heap[g]?=some (.map (mS l 0).toArray l.length):=ax;obtain⟨r,sR,kH⟩:=FX s l 0 0;have au:(Instr.checkKey (mS l 0).toArray.isEmpty 10000 k (.string s)).run X.P w=.ok () w:=zS (k:=.string s) p6 (by simp[MapKept.IsKey]) _ 9999;have r6:(Instr.findKey k (.string s) (mS l 0)).run X.P w=.ok r w:=zU p6 sR;unfold Instr.lookup;simp only[bV,run_underlying e0,bN,zP ax,cH,au,r6];cases r with
 |none=>
  cases av:dz s l with
  |none=>cases ok<;>simp[a']
  |some v=>rw[av]at kH;simp at kH
 |some p=>
  cases av:dz s l with
  |none=>rw[av]at kH;simp at kH
  |some v=>
   rw[av]at kH;simp only[ka,jl]at kH;cases ok<;>simp[kH]
def br.RP(aG:cw X.P X.E){t:Nat}(aC:o.op=.lookup t x y true)(aj:∀ d,o.dst=some d->d<X.n){k:Nat}(aw:X.E t=some c8)(dQ:c8.bE=.map k e)(ae:X.E k=some qP)(fl:qP.bE=.string)(a':∀ w,(zeroValue e).run X.P w=.ok (.int .i64 0) w){g:Nat}{l:List (ByteArray×Int)}(ab:bt F x=.val (.map (some g)))(aD:bt F y=.val (.string s))(a3:g8 I M g (h8 l))
  (h:K (put o.dst (.val (.tuple #[.int .i64 ((dz s l).getD 0),.bool (dz s l).isSome])) F) C I M):br X o F C I M K:=by
 refine⟨λa w Q ⟨β,aX⟩=>?_⟩;have eT:=RO aG aw dQ ae fl a' (a3.heap aX.holds) (s:=s) true;have ex:=cS aX.ak ab;have mJ:=cS aX.ak aD;refine sQ aX aj (by rw[aC];simp) ?_ h;unfold execOp;simp only[aC,ex,mJ,bV,eT,bN,cH,bZ]
def br.abT(aG:cw X.P X.E){t:Nat}(aC:o.op=.lookup t x y false)(aj:∀ d,o.dst=some d->d<X.n){k:Nat}(aw:X.E t=some c8)(dQ:c8.bE=.map k e)(ae:X.E k=some qP)(fl:qP.bE=.string)(a':∀ w,(zeroValue e).run X.P w=.ok (.int .i64 0) w){g:Nat}{l:List (ByteArray×Int)}(ab:bt F x=.val (.map (some g)))(aD:bt F y=.val (.string s))(a3:g8 I M g (h8 l))
  (h:K (put o.dst (.val (.int .i64 ((dz s l).getD 0))) F) C I M):br X o F C I M K:=by
 refine⟨λa w Q ⟨β,aX⟩=>?_⟩;have eT:=RO aG aw dQ ae fl a' (a3.heap aX.holds) (s:=s) false;have ex:=cS aX.ak ab;have mJ:=cS aX.ak aD;refine sQ aX aj (by rw[aC];simp) ?_ h;unfold execOp;simp only[aC,ex,mJ,bV,eT,bN,cH,b0]
end
def ma:List (ByteArray×Int)->Nat->List a2->List (ByteArray×Int)
 |aP,_,[]=>aP| aP,i,d::ds=>ma (bif (dz d.name aP).isSome then aP else aP++[(d.name,(i:Int))]) (i+1) ds
def bp(ds:List a2):List (ByteArray×Int):=ma [] 0 ds
def RQ(ax:g.ok I):Spec Tryz.prog 197 [g.val] I [] λv I' M'=>(∀ b o,I b=some o->I' b=some o)/\M'=[]/\∃ gY,v=.map (some gY)/\I' gY=some (h8 (bp g.ds)):=by
 refine zz [] a4 Tryz.func197 rfl rfl rfl ?_;intro B ay;have jw:=ax.n;have iN:=ax.bb.cap;refine br.makeMap a4 rfl (by simp) rfl rfl rfl λiu=>?_;refine dI.inv (ι:=Nat×List (ByteArray×Int)) (λx=>{ bn:=[(1,.ref 1 0),(3,.val (.map (some iu))),(13,.val (.slice g.a g.n g.c)),(14,.val (.int .i64 g.n)),(15,.val (.int .i64 x.1))],cl:=[(1,[.slice g.a g.n g.c])],c2:=I,dx:=[⟨iu,h8 x.2⟩] }) (λx=>x.1<=g.n/\bp g.ds=ma x.2 x.1 (g.ds.drop x.1)) (λx=>g.n-x.1) ?_ ?_
 ·exact⟨(0,[]),⟨dO _,rfl⟩,.refl,iJ,.cons rfl .nil⟩
 rintro⟨i,aP⟩⟨hi,aO⟩;simp only at hi aO;refine a9.mk (λh=>?_) (λh=>?_)
 ·have aW:i<g.n:=by have:(i:Int)<(g.n:Int):=dV h;omega
  have cy:i<g.ds.length:=by omega
  obtain⟨aV,bU,bB⟩:=ax.bb.row a2.da aW cy;rw[e6 cy,ma]at aO;refine bu.mk aV i bU rfl aW ?_;refine aZ.mk _ (bB _) ?_;refine br.RP a4 rfl (by simp) rfl rfl rfl rfl (λw=>CQ w) (l:=aP) (g:=iu) rfl rfl (.inr ⟨_,.head _,rfl,rfl⟩) ?_;refine a9.mk (λal=>?_) (λal=>?_)
  ·have aJ:(dz g.ds[i].name aP).isSome=false:=by simpa using al
   have av:dz g.ds[i].name aP=none:=by simpa using aJ
   rw[aJ,b0]at aO;refine br.Rd a4 rfl rfl rfl rfl rfl rfl rfl rfl rfl av (Mr:=[]) (.refl _) ?_;refine bi.mk _ (de (i:=i) (by omega)) ?_;exact⟨(i+1,_),⟨⟨by simp only;omega,aO⟩,by simp only;omega⟩,.refl,iJ,.cons rfl .nil⟩
  ·have aJ:(dz g.ds[i].name aP).isSome=true:=by simpa using al
   rw[aJ,bZ]at aO;refine bi.mk _ (de (i:=i) (by omega)) ?_;exact⟨(i+1,_),⟨⟨by simp only;omega,aO⟩,by simp only;omega⟩,.refl,iJ,.cons rfl .nil⟩
 have cV:g.n<=i:=by have:¬ (i:Int)<(g.n:Int):=eO h;omega
 rw[ls (by omega),ma]at aO;intro e8;have ah:=e8.d ⟨iu,h8 aP⟩ (.head _);exact⟨_,_,.vt rfl (by simp) .refl,z2 ah,rfl,iu,rfl,by rw[aO];exact z1 ..⟩
def abU:List Nat:=[263,264,265,266,267,268,269,270,271,266]
def Ky:List Value:=[.func (.func 263) #[] #[],.func (.func 264) #[] #[],.func (.func 265) #[] #[],.func (.func 266) #[] #[],.func (.func 267) #[] #[],.func (.func 268) #[] #[],.func (.func 269) #[] #[],.func (.func 270) #[] #[],.func (.func 271) #[] #[],.func (.func 266) #[] #[]]
def abV:Spec Tryz.prog 237 [] I [] λv I' M'=>v=.agg Ky.toArray/\I'=I/\M'=[]:=by refine cp [] a4 Tryz.func237 rfl rfl rfl ?_;intro B ay;exact⟨_,_,.refl,rfl,rfl,rfl⟩
def th{d:an}{a:Option Addr}{n:Nat}{ks:List aI}(ae:lK I M a n ks)(aJ:n<=140737488355328)(j:Nat)(ai:j<10)(aj:d.k=j)(ay:(j=3\/6<=j)->0<n) :
  Spec Tryz.prog (abU.getD j 0) [d.val,.slice a n c] I M λv I' M'=>v=(fH d ks).val/\I'=I/\M'=M:=by
 match j,ai,aj,ay with
 |0,_,aj,_=>rw[show fH d ks=⟨true,false,false⟩ by simp[fH,aj]];exact abJ (I:=I) (M:=M) (d:=d) (a:=a) (n:=n) (c:=c)| 1,_,aj,_=>rw[show fH d ks=⟨false,!d.o0,true⟩ by simp[fH,aj]];exact abN (I:=I) (M:=M) (d:=d) (a:=a) (n:=n) (c:=c)| 2,_,aj,_=>rw[show fH d ks=⟨false,true,true⟩ by simp[fH,aj]];exact abK (I:=I) (M:=M) (d:=d) (a:=a) (n:=n) (c:=c)| 3,_,aj,ay=>rw[show fH d ks=ks.headD bK by simp[fH,aj]];exact RK (d:=d) (c:=c) ae (ay (by omega))| 4,_,aj,_=>rw[show fH d ks=gQ ks by simp[fH,aj]];exact abR (d:=d) (c:=c) ae aJ| 5,_,aj,_=>rw[show fH d ks=od ks by simp[fH,aj]];exact abP (d:=d) (c:=c) ae aJ| 6,_,aj,ay=>rw[show fH d ks=uO d (ks.headD bK) by simp[fH,aj]];exact abO (d:=d) (c:=c) ae (ay (by omega))| 7,_,aj,ay=>rw[show fH d ks=⟨(ks.headD bK).jf,false,(ks.headD bK).f⟩ by simp[fH,aj]];exact abL (d:=d) (c:=c) ae (ay (by omega))| 8,_,aj,ay=>rw[show fH d ks=⟨(ks.headD bK).f,false,(ks.headD bK).jf⟩ by simp[fH,aj]];exact abM (d:=d) (c:=c) ae (ay (by omega))| 9,_,aj,ay=>rw[show fH d ks=ks.headD bK by simp[fH,aj]];exact RK (d:=d) (c:=c) ae (ay (by omega))
def eY(b:Nat)(l:List aI):aE:=⟨b,.cells (l.flatMap aI.cells).toArray 270 (0,0)⟩
def yz(l:List aI):(l.flatMap aI.cells).length=l.length*3:=hM _ 3 aI.da l
def Ah{b:Nat}{l:List aI}(a3:eY b l∈M){j:Nat}(ai:j<l.length):c7 I M ((⟨b,0,none⟩:Addr).add (j*3)) 3 l[j].cells:=by have h:=cX (I:=I) (cs:=l.flatMap aI.cells) (k:=j*3) (n:=3) a3 (by rw[yz];omega);rwa [zN aI.cells 3 aI.da l j ai]at h
def Kz(l:List aI)(j:Nat)(ai:j<l.length)(x:aI):bQ (l.flatMap aI.cells) (j*3) x.cells=(l.set j x).flatMap aI.cells:=by
 have e:l.flatMap aI.cells=(l.take j).flatMap aI.cells++(l[j].cells++(l.drop (j+1)).flatMap aI.cells):=by
  have aa:l=l.take j++(l[j]::l.drop (j+1)):=by rw[<-e6 ai,qM]
  have ad:=congrArg (λq:List aI=>q.flatMap aI.cells) aa;simp only[gK,jO]at ad;exact ad
 have av:((l.take j).flatMap aI.cells).length=j*3:=by rw[yz,fu];congr 1;omega
 unfold bQ;rw[BT,ck ai,gK,jO,e,fi];congr 1
 ·rw[<-av,vG]
 ·congr 1;rw[aI.da,<-av,<-fi,FB (by rw[cL,aI.da])]
def RR(l:List aI)(x:aI):(l++[x]).flatMap aI.cells=l.flatMap aI.cells++x.cells:=by simp
def aU.zero(h:os.ok size xs):aU.ok ⟨os.a,0,os.c,os.aS⟩ size []:=by refine⟨by simp,λaY=>⟨rfl,(h.nil aY).2⟩,λg ax=>?_⟩;obtain⟨aa,ad,al,aL⟩:=h.cap g ax;exact⟨aa,dO _,al,by simp⟩
def aU.RS{l:List aI}(h:os.ok 3 (l.flatMap aI.cells))(a3:∀ x∈os.aq e,x∈M):lK I M (os.a.map λg=>⟨g,0,none⟩) os.n l:=by
 have av:=h.len;rw[yz]at av;refine⟨by omega,λj ai=>?_⟩;obtain⟨a,n,c,aS⟩:=os;simp only at av;cases a with
 |none=>have:=(h.nil rfl).1;simp only at this;omega
 |some g=>
  obtain⟨aa,ad,al,aL⟩:=h.cap g rfl;simp only at aa ad aL;refine⟨⟨g,0,none⟩,rfl,?_⟩;have hm:(⟨g,.cells aS.toArray e (0,0)⟩:aE)∈M:=a3 _ (by simp[aU.aq]);have af:=cX (I:=I) (cs:=aS) (k:=j*3) (n:=3) hm (by omega);have aA:(aS.drop (j*3)).take 3=((aS.take (n*3)).drop (j*3)).take 3:=by rw[zB,xU];congr 1;omega
  rw[aA,aL,zN aI.cells 3 aI.da l j ai]at af;exact af
def qb(pl:List (ByteArray×Int))(bn aP:List aI)(d:an):List aI:=
 d.ap.map (λk=>aP.getD k.toNat bK)++bif decide (d.k=3)then [bn.getD ((dz d.t pl).getD 0).toNat bK]else []
def dF(pl:List (ByteArray×Int))(bn:List aI):List an->List aI->List aI
 |[],aP=>aP| d::ds,aP=>dF pl bn ds (aP++[fH d (qb pl bn aP d)])
def C1(pl:List (ByteArray×Int))(bn:List aI):∀ (ds:List an) (aP:List aI),(dF pl bn ds aP).length=aP.length+ds.length
 |[],aP=>rfl| d::ds,aP=>by rw[dF,C1];simp;omega
def RT(pl:List (ByteArray×Int))(n:Nat)(ns:List an):Prop:=∀ d∈ns,d.k=3->∃ i:Nat,dz d.t pl=some (i:Int)/\i<n
def KA{d:an}{n:Int}(h:fits d n=true):d.k<10:=by apply Int.lt_of_not_ge;intro cV;have:(10:Int)<=d.k:=cV;simp[fits,this]at h
def RU{d:an}{n:Int}(ay:0<=d.k)(h:fits d n=true)(ae:6<=d.k):0<n:=by
 have rP:=KA h;have Ai:d.k=6\/d.k=7\/d.k=8\/d.k=9:=by omega
 rcases Ai with e | e | e | e<;>(simp[fits,e,rO,pU,jU]at h;omega)
def abW(aP:List aI)(n i:Nat)(av:aP.length=i)(hi:i<n)(x:aI):(aP++List.replicate (n-i) bK).set i x=(aP++[x])++List.replicate (n-(i+1)) bK:=by subst av;rw[yn _ _ (cI _),kn,show n-aP.length=(n-(aP.length+1))+1 by omega,J8,yo];simp
def RV:∀ n:Nat,rowOf bK.cells (n*3)=(List.replicate n bK).flatMap aI.cells:=λn=>by
 apply qD
 ·rw[yz,zQ];simp[qv,madeCells]
 intro i aa ad;have al:∀ x∈(List.replicate n bK).flatMap aI.cells,x=Value.bool false:=λx ab=>by obtain⟨y,aD,ab⟩:=hg.1 ab;have:=J6 aD;subst this;simpa[aI.cells,bK]using ab
 rw[al _ (b9 ad)];have a':∀ j,j<3->bK.cells[j]! = Value.bool false:=λj ai=>by
  match j,ai with
  |0,_=>rfl| 1,_=>rfl| 2,_=>rfl
 simp only[rowOf,hN,J9];exact a' _ (Nat.mod_lt _ (by decide))
def ti{aP:List aI}{n i:Nat}(kD:aP.length=i)(aW:i<n)(x:aI):Nat.ble (0+i*3+x.cells.length) ((aP++List.replicate (n-i) bK).flatMap aI.cells).length=true:=by rw[nv,yz,aI.da,cL,zQ];omega
def RW(aw:t.ok I)(af:right t=true)(hm:I gY=some (h8 pl)){bn:List aI}(k2:lK I M0 p8 ln bn)(au:RT pl ln t.ns) :
  Spec Tryz.prog 199 [.map (some gY),.slice p8 ln lc,t.val] I M0 λv I' M'=>I'=I/\∃ b,v=.slice (some ⟨b,0,none⟩) t.n t.n/\M'=eY b (dF pl bn t.ns [])::M0:=by
 refine cp [] a4 Tryz.func199 rfl rfl rfl ?_;intro B ay;have l9:=aw.n;have iN:=aw.bb.cap;refine bd.mk [] M0 _ (.refl _) abV ?_;rintro v cT M1 -⟨rfl,rfl,rfl⟩;refine oB.mk t.n t.n rfl rfl (cI _) (by show 3*t.n<=_;omega) (by omega) ?_;refine cJ.mk λfI abX abY=>?_;refine dI.inv (ι:=Nat×List aI×aU) (λx=>{ bn:=[(0,.val (.map (some gY))),(1,.val (.slice p8 ln lc)),(5,.ref 5 0),(7,.ref 7 0),(8,.val (.slice (some ⟨fI,0,none⟩) t.n t.n)),(9,.val x.2.2.val),(20,.val (.slice t.a t.n t.c)),(21,.val (.int .i64 t.n)),(22,.val (.int .i64 x.1))],cl:=[(5,t.cells),(7,Ky)],c2:=cT,dx:=eY fI (x.2.1++List.replicate (t.n-x.1) bK)::(x.2.2.aq 270++M0) }) (λx=>x.1<=t.n/\x.2.1.length=x.1/\dF pl bn t.ns []=dF pl bn (t.ns.drop x.1) x.2.1/\∃ ks,x.2.2.ok 3 ks) (λx=>t.n-x.1) ?_ ?_
 ·refine⟨(0,[],jz),⟨dO _,rfl,rfl,[],ob 3⟩,?_,nP,.cons rfl (.cons rfl .nil)⟩;have e:rowOf bK.cells (t.n*3)=(List.replicate t.n bK).flatMap aI.cells:=RV t.n;simp only[eY,jq,F2];rw[<-e];exact .refl
 rintro⟨i,aP,dq⟩⟨hi,kD,Gk,alD,hR⟩;simp only at hi kD Gk hR;refine a9.mk (λh=>?_) (λh=>?_)
 rotate_left
 ·have cV:i=t.n:=by have:¬ (i:Int)<(t.n:Int):=eO h;omega
  subst cV;rw[ls (by omega),dF]at Gk;refine⟨cT,eY fI (aP++List.replicate (t.n-t.n) bK)::M0,.sub (.cons_cons _ (lr _ _)) .refl,rfl,fI,rfl,?_⟩;rw[Gk,kn,List.replicate_zero,ee]
 have aW:i<t.n:=by have:(i:Int)<(t.n:Int):=dV h;omega
 have cy:i<t.ns.length:=by omega
 obtain⟨aV,bU,bB⟩:=aw.bb.row an.da aW cy;have gh:=b9 cy;have aj:=aw.ns _ gh;have e':=aj.aT;have q1:=aj.bb.cap;have gW:=jX af i cy;have q2:=zX af cy;have RX:=au _ gh;have RY:dF pl bn t.ns []=dF pl bn (t.ns.drop (i+1)) (aP++[fH t.ns[i] (qb pl bn aP t.ns[i])]):=by rw[Gk,e6 cy,dF]
 generalize t.ns[i]=d at bB aj e' q1 gW q2 RX RY;have jV:=aj.k.1;have alE:=KA q2;have Aj:∀ {M:List aE} {q:Int},eY fI (aP++List.replicate (t.n-i) bK)∈M->q∈d.ap->c7 cT M ((⟨fI,0,none⟩:Addr).add (q.toNat*3)) 3 (aP.getD q.toNat bK).cells:=fun {M q} a3 aK=>by
  have k3:=gW q aK;have gX:q.toNat<aP.length:=by omega
  have:=Ah (I:=cT) a3 (j:=q.toNat) (by rw[cL];omega);rw[r7 gX]at this;simpa[cv,gX]using this
 refine bu.mk aV i bU rfl aW ?_;refine aZ.mk _ (bB _) ?_;refine kA.mk 0 0 rfl rfl (cI _) (dO _) ?_;refine dI.inv (ι:=Nat×aU×List aI) (λx=>{ bn:=[(0,.val (.map (some gY))),(1,.val (.slice p8 ln lc)),(5,.ref 5 0),(7,.ref 7 0),(8,.val (.slice (some ⟨fI,0,none⟩) t.n t.n)),(9,.val x.2.1.val),(10,.val (.int .i64 i)),(11,.ref 11 0),(20,.val (.slice t.a t.n t.c)),(21,.val (.int .i64 t.n)),(22,.val (.int .i64 i)),(30,.val (.slice d.cW d.aT d.c5)),(31,.val (.int .i64 d.aT)),(32,.val (.int .i64 x.1))],cl:=[(5,t.cells),(7,Ky),(11,d.cells)],c2:=cT,dx:=eY fI (aP++List.replicate (t.n-i) bK)::(x.2.1.aq 270++M0) }) (λx=>x.1<=d.aT/\x.2.1.ok 3 (x.2.2.flatMap aI.cells)/\x.2.2=(d.ap.take x.1).map λk=>aP.getD k.toNat bK) (λx=>d.aT-x.1) ?_ ?_
 ·exact⟨(0,⟨dq.a,0,dq.c,dq.aS⟩,[]),⟨dO _,aU.zero hR,rfl⟩,.refl,BS,.cons rfl (.cons rfl (.cons rfl .nil))⟩
 rintro⟨k,ch,eC⟩⟨ae,eG,c0⟩;simp only at ae eG c0;have alF:ch.n=eC.length:=by have:=eG.len;rw[yz]at this;omega
 have Ak:eC.length<=k:=by rw[c0,bO];exact zT _ _
 refine a9.mk (λh=>?_) (λh=>?_)
 ·have ei:k<d.aT:=by have:(k:Int)<(d.aT:Int):=dV h;omega
  have hG:k<d.ap.length:=by omega
  obtain⟨gp,fe,e1⟩:=aj.bb.one ei hG;have aK:=gW _ (b9 hG);refine bu.mk gp k fe rfl ei ?_;refine aZ.mk _ (e1 _) ?_;refine bu.mk ⟨fI,0,none⟩ d.ap[k].toNat rfl (by omega) (by omega) ?_;refine aZ.mk _ (Aj (.head _) (b9 hG)) ?_;refine cJ.mk λcz qW yl=>?_;refine br.append a4 rfl (by simp) (e:=270) rfl rfl rfl ch eG rfl (m:=1) rfl (cq:=(aP.getD d.ap[k].toNat bK).cells) (by decide) (cX (b:=cz) (cs:=(aP.getD d.ap[k].toNat bK).cells) (k:=0) (n:=3) (T:=270) (.head _) (bH rfl)) rfl (Mr:=⟨cz,.cells (aP.getD d.ap[k].toNat bK).cells.toArray 270 (0,0)⟩::eY fI (aP++List.replicate (t.n-i) bK)::M0) (by
   have:=CK [(⟨cz,.cells (aP.getD d.ap[k].toNat bK).cells.toArray 270 (0,0)⟩:aE),eY fI (aP++List.replicate (t.n-i) bK)] (ch.aq 270) M0;exact this) (by simp only[maxLen];omega) (by show(ch.n+1)*3<=_;omega) ?_
  intro ba ha yA gA kp oe wm;refine bi.mk _ (de (i:=k) (by omega)) ?_;refine⟨(k+1,⟨some ba,ch.n+1,ha,yA⟩,eC++[aP.getD d.ap[k].toNat bK]),⟨⟨by simp only;omega,?_,?_⟩,by simp only;omega⟩,.sub (M1:=[(⟨ba,.cells yA.toArray 270 (0,0)⟩:aE),eY fI (aP++List.replicate (t.n-i) bK)]++M0) (.cons_cons _ (.cons _ (.refl _))) (.perm (List.Perm.swap _ _ _) .refl),BS,.cons rfl (.cons rfl (.cons rfl .nil))⟩;·simp only;rw[RR];exact RA eG (aI.da _) gA kp oe wm
  ·simp only;rw[gD hG,dc,<-c0];rfl
 have cV:d.aT<=k:=by have:¬ (k:Int)<(d.aT:Int):=eO h;omega
 rw[fT (by omega)]at c0;have alG:eC.length=d.ap.length:=by rw[c0,bO]
 have iG:ch.n+1<=140737488355328:=by omega
 clear h ae Ak;have fR:∀ x:aI,bQ ((aP++List.replicate (t.n-i) bK).flatMap aI.cells) (0+i*3) x.cells=((aP++[x])++List.replicate (t.n-(i+1)) bK).flatMap aI.cells:=λx=>by rw[c9,Kz _ _ (by simp;omega),abW aP t.n i kD aW]
 have hinv:∀ (mU:aU) (tj:List Value),mU.ok 3 tj->((i+1<=t.n/\(aP++[fH d (qb pl bn aP d)]).length=i+1/\dF pl bn t.ns []=dF pl bn (t.ns.drop (i+1)) (aP++[fH d (qb pl bn aP d)])/\∃ ks,mU.ok 3 ks)/\t.n-(i+1)<t.n-i):=λmU tj ad=>
  ⟨⟨aW,by simp[kD],RY,tj,ad⟩,by omega⟩
 by_cases al:d.k=3
 ·refine a9.mk (λ_=>?_) (λh=>absurd h (by simp[al]));obtain⟨q,C2,Al⟩:=RX al;have C3:qb pl bn aP d=eC++[bn.getD q bK]:=by rw[qb,<-c0,C2,al];rfl
  have gX:q<bn.length:=by rw[k2.n];exact Al
  obtain⟨gi,z6,eh⟩:=k2.rd q gX;have abZ:bn.getD q bK=bn[q]:=by simp[cv,gX]
  refine br.abT a4 rfl (by simp) rfl rfl rfl rfl (λw=>CQ w) (l:=pl) (g:=gY) rfl rfl (.inl hm) ?_;rw[C2];refine bu.mk gi q z6 rfl Al ?_;refine aZ.mk _ (eh.sub λx ab=>by simp[ab]) ?_;refine cJ.mk λcz qW yl=>?_;refine br.append a4 rfl (by simp) (e:=270) rfl rfl rfl ch eG rfl (m:=1) rfl (cq:=bn[q].cells) (by decide) (cX (b:=cz) (cs:=bn[q].cells) (k:=0) (n:=3) (T:=270) (.head _) (bH rfl)) rfl (Mr:=⟨cz,.cells bn[q].cells.toArray 270 (0,0)⟩::eY fI (aP++List.replicate (t.n-i) bK)::M0) (by
   have:=CK [(⟨cz,.cells bn[q].cells.toArray 270 (0,0)⟩:aE),eY fI (aP++List.replicate (t.n-i) bK)] (ch.aq 270) M0;exact this) (by simp only[maxLen];omega) (by show(ch.n+1)*3<=_;omega) ?_
  intro ba ha yA gA kp oe wm;have hc:=RA (g:=ba) eG (aI.da bn[q]) gA kp oe wm;rw[<-RR,<-abZ,<-C3]at hc;have fl:=aU.RS (I:=cT) (M:=⟨ba,.cells yA.toArray 270 (0,0)⟩::⟨cz,.cells bn[q].cells.toArray 270 (0,0)⟩::eY fI (aP++List.replicate (t.n-i) bK)::M0) (e:=270) hc (λx ab=>by
   simp only[aU.aq,eK]at ab;subst ab;exact .head _)
  refine dh.draw a4 rfl rfl rfl ?_;obtain⟨c6,b3,s1,s2,cm,ht,lo,ct,q3,q4,q5,q6⟩:=d;simp only at al;subst al;refine dP.mk 3 rfl (by decide) ?_;refine fv.mD _ [] _ perm_nil (th (d:=⟨3,b3,s1,s2,cm,ht,lo,ct,q3,q4,q5,q6⟩) fl iG 3 (by decide) rfl (λ_=>Nat.succ_pos _)) (λv I' M' h x ab=>by rw[h.2.2];exact ab) ?_;rintro v eE dB -⟨rfl,rfl,rfl⟩;rw[ee];refine bu.mk ⟨fI,0,none⟩ i rfl rfl aW ?_;refine cn.iM [(⟨ba,.cells yA.toArray 270 (0,0)⟩:aE),⟨cz,.cells bn[q].cells.toArray 270 (0,0)⟩] M0 ((aP++List.replicate (t.n-i) bK).flatMap aI.cells) _ rfl (ti kD aW _) rfl _ (fR _) ?_;refine bi.mk _ (de (i:=i) (by omega)) ?_;exact⟨(i+1,_,⟨some ba,ch.n+1,ha,yA⟩),hinv _ _ hc,.sub (M1:=[(⟨ba,.cells yA.toArray 270 (0,0)⟩:aE),eY fI _]++M0) (.cons_cons _ (.cons _ (.refl _))) (.perm (List.Perm.swap _ _ _) .refl),nP,.cons rfl (.cons rfl .nil)⟩
 refine a9.mk (λh=>absurd (dV h) al) (λ_=>?_);have C3:qb pl bn aP d=eC:=by rw[qb,<-c0,eU al];simp
 rw[C3]at hinv;have fl:=aU.RS (I:=cT) (M:=eY fI (aP++List.replicate (t.n-i) bK)::(ch.aq 270++M0)) (e:=270) eG (λx ab=>by simp[ab]);have lp:6<=d.k->0<ch.n:=λcr=>by have:=RU jV q2 cr;omega
 have Ai:d.k=0\/d.k=1\/d.k=2\/d.k=4\/d.k=5\/d.k=6\/d.k=7\/d.k=8\/d.k=9:=by omega
 obtain⟨c6,b3,s1,s2,cm,ht,lo,ct,q3,q4,q5,q6⟩:=d;simp only at Ai lp al;refine dh.draw a4 rfl rfl rfl ?_;rcases Ai with rfl | rfl | rfl | rfl | rfl | rfl | rfl | rfl | rfl
 ·refine dP.mk 0 rfl (by decide) ?_;refine fv.mD _ [] _ perm_nil (th (d:=⟨0,b3,s1,s2,cm,ht,lo,ct,q3,q4,q5,q6⟩) fl (uI iG) 0 (by decide) rfl (λh=>by omega)) (λv I' M' h x ab=>by rw[h.2.2];exact ab) ?_;rintro v eE dB -⟨rfl,rfl,rfl⟩;rw[ee];refine bu.mk ⟨fI,0,none⟩ i rfl rfl aW ?_;refine cn.iM [] (ch.aq 270++M0) ((aP++List.replicate (t.n-i) bK).flatMap aI.cells) _ rfl (ti kD aW _) rfl _ (fR _) ?_;refine bi.mk _ (de (i:=i) (by omega)) ?_;exact⟨(i+1,_,ch),hinv _ _ eG,.refl,nP,.cons rfl (.cons rfl .nil)⟩
 ·refine dP.mk 1 rfl (by decide) ?_;refine fv.mD _ [] _ perm_nil (th (d:=⟨1,b3,s1,s2,cm,ht,lo,ct,q3,q4,q5,q6⟩) fl (uI iG) 1 (by decide) rfl (λh=>by omega)) (λv I' M' h x ab=>by rw[h.2.2];exact ab) ?_;rintro v eE dB -⟨rfl,rfl,rfl⟩;rw[ee];refine bu.mk ⟨fI,0,none⟩ i rfl rfl aW ?_;refine cn.iM [] (ch.aq 270++M0) ((aP++List.replicate (t.n-i) bK).flatMap aI.cells) _ rfl (ti kD aW _) rfl _ (fR _) ?_;refine bi.mk _ (de (i:=i) (by omega)) ?_;exact⟨(i+1,_,ch),hinv _ _ eG,.refl,nP,.cons rfl (.cons rfl .nil)⟩
 ·refine dP.mk 2 rfl (by decide) ?_;refine fv.mD _ [] _ perm_nil (th (d:=⟨2,b3,s1,s2,cm,ht,lo,ct,q3,q4,q5,q6⟩) fl (uI iG) 2 (by decide) rfl (λh=>by omega)) (λv I' M' h x ab=>by rw[h.2.2];exact ab) ?_;rintro v eE dB -⟨rfl,rfl,rfl⟩;rw[ee];refine bu.mk ⟨fI,0,none⟩ i rfl rfl aW ?_;refine cn.iM [] (ch.aq 270++M0) ((aP++List.replicate (t.n-i) bK).flatMap aI.cells) _ rfl (ti kD aW _) rfl _ (fR _) ?_;refine bi.mk _ (de (i:=i) (by omega)) ?_;exact⟨(i+1,_,ch),hinv _ _ eG,.refl,nP,.cons rfl (.cons rfl .nil)⟩
 ·refine dP.mk 4 rfl (by decide) ?_;refine fv.mD _ [] _ perm_nil (th (d:=⟨4,b3,s1,s2,cm,ht,lo,ct,q3,q4,q5,q6⟩) fl (uI iG) 4 (by decide) rfl (λh=>by omega)) (λv I' M' h x ab=>by rw[h.2.2];exact ab) ?_;rintro v eE dB -⟨rfl,rfl,rfl⟩;rw[ee];refine bu.mk ⟨fI,0,none⟩ i rfl rfl aW ?_;refine cn.iM [] (ch.aq 270++M0) ((aP++List.replicate (t.n-i) bK).flatMap aI.cells) _ rfl (ti kD aW _) rfl _ (fR _) ?_;refine bi.mk _ (de (i:=i) (by omega)) ?_;exact⟨(i+1,_,ch),hinv _ _ eG,.refl,nP,.cons rfl (.cons rfl .nil)⟩
 ·refine dP.mk 5 rfl (by decide) ?_;refine fv.mD _ [] _ perm_nil (th (d:=⟨5,b3,s1,s2,cm,ht,lo,ct,q3,q4,q5,q6⟩) fl (uI iG) 5 (by decide) rfl (λh=>by omega)) (λv I' M' h x ab=>by rw[h.2.2];exact ab) ?_;rintro v eE dB -⟨rfl,rfl,rfl⟩;rw[ee];refine bu.mk ⟨fI,0,none⟩ i rfl rfl aW ?_;refine cn.iM [] (ch.aq 270++M0) ((aP++List.replicate (t.n-i) bK).flatMap aI.cells) _ rfl (ti kD aW _) rfl _ (fR _) ?_;refine bi.mk _ (de (i:=i) (by omega)) ?_;exact⟨(i+1,_,ch),hinv _ _ eG,.refl,nP,.cons rfl (.cons rfl .nil)⟩
 ·refine dP.mk 6 rfl (by decide) ?_;refine fv.mD _ [] _ perm_nil (th (d:=⟨6,b3,s1,s2,cm,ht,lo,ct,q3,q4,q5,q6⟩) fl (uI iG) 6 (by decide) rfl (λ_=>lp (by decide))) (λv I' M' h x ab=>by rw[h.2.2];exact ab) ?_;rintro v eE dB -⟨rfl,rfl,rfl⟩;rw[ee];refine bu.mk ⟨fI,0,none⟩ i rfl rfl aW ?_;refine cn.iM [] (ch.aq 270++M0) ((aP++List.replicate (t.n-i) bK).flatMap aI.cells) _ rfl (ti kD aW _) rfl _ (fR _) ?_;refine bi.mk _ (de (i:=i) (by omega)) ?_;exact⟨(i+1,_,ch),hinv _ _ eG,.refl,nP,.cons rfl (.cons rfl .nil)⟩
 ·refine dP.mk 7 rfl (by decide) ?_;refine fv.mD _ [] _ perm_nil (th (d:=⟨7,b3,s1,s2,cm,ht,lo,ct,q3,q4,q5,q6⟩) fl (uI iG) 7 (by decide) rfl (λ_=>lp (by decide))) (λv I' M' h x ab=>by rw[h.2.2];exact ab) ?_;rintro v eE dB -⟨rfl,rfl,rfl⟩;rw[ee];refine bu.mk ⟨fI,0,none⟩ i rfl rfl aW ?_;refine cn.iM [] (ch.aq 270++M0) ((aP++List.replicate (t.n-i) bK).flatMap aI.cells) _ rfl (ti kD aW _) rfl _ (fR _) ?_;refine bi.mk _ (de (i:=i) (by omega)) ?_;exact⟨(i+1,_,ch),hinv _ _ eG,.refl,nP,.cons rfl (.cons rfl .nil)⟩
 ·refine dP.mk 8 rfl (by decide) ?_;refine fv.mD _ [] _ perm_nil (th (d:=⟨8,b3,s1,s2,cm,ht,lo,ct,q3,q4,q5,q6⟩) fl (uI iG) 8 (by decide) rfl (λ_=>lp (by decide))) (λv I' M' h x ab=>by rw[h.2.2];exact ab) ?_;rintro v eE dB -⟨rfl,rfl,rfl⟩;rw[ee];refine bu.mk ⟨fI,0,none⟩ i rfl rfl aW ?_;refine cn.iM [] (ch.aq 270++M0) ((aP++List.replicate (t.n-i) bK).flatMap aI.cells) _ rfl (ti kD aW _) rfl _ (fR _) ?_;refine bi.mk _ (de (i:=i) (by omega)) ?_;exact⟨(i+1,_,ch),hinv _ _ eG,.refl,nP,.cons rfl (.cons rfl .nil)⟩
 ·refine dP.mk 9 rfl (by decide) ?_;refine fv.mD _ [] _ perm_nil (th (d:=⟨9,b3,s1,s2,cm,ht,lo,ct,q3,q4,q5,q6⟩) fl (uI iG) 9 (by decide) rfl (λ_=>lp (by decide))) (λv I' M' h x ab=>by rw[h.2.2];exact ab) ?_;rintro v eE dB -⟨rfl,rfl,rfl⟩;rw[ee];refine bu.mk ⟨fI,0,none⟩ i rfl rfl aW ?_;refine cn.iM [] (ch.aq 270++M0) ((aP++List.replicate (t.n-i) bK).flatMap aI.cells) _ rfl (ti kD aW _) rfl _ (fR _) ?_;refine bi.mk _ (de (i:=i) (by omega)) ?_;exact⟨(i+1,_,ch),hinv _ _ eG,.refl,nP,.cons rfl (.cons rfl .nil)⟩
structure aI.le(a b:aI):Prop where
 z:a.z=true->b.z=true
 s:a.s=true->b.s=true
 f:a.f=true->b.f=true
def aI.le_refl(a:aI):a.le a:=⟨id,id,id⟩
def aI.le.trans{a b c:aI}(h:a.le b)(bq:b.le c):a.le c:=⟨λx=>bq.z (h.z x),λx=>bq.s (h.s x),λx=>bq.f (h.f x)⟩
def aI.le.antisymm{a b:aI}(h:a.le b)(bq:b.le a):a=b:=by
 obtain⟨cf,dw,dM⟩:=a;obtain⟨b1,cd,fF⟩:=b;have e:∀ {x y:Bool},(x=true->y=true)->(y=true->x=true)->x=y:=fun {x y} h bq=>by cases x<;>cases y<;>simp_all
 have aA:cf=b1:=e h.z bq.z;have a0:dw=cd:=e h.s bq.s;have bY:dM=fF:=e h.f bq.f;subst aA a0 bY;rfl
def aI.C4(a:aI):bK.le a:=⟨(λh=>by cases h),(λh=>by cases h),(λh=>by cases h)⟩
def aI.KB{a b:aI}(h:a.le b):a.jf=true->b.jf=true:=by intro ar;simp only[aI.jf,jP]at ar |-;exact ar.imp h.z h.s
inductive dK:List aI->List aI->Prop
 |nil:dK [] []| cons {a b l m} (h:aI.le a b) (t:dK l m):dK (a::l) (b::m)
def dK.refl:∀ l,dK l l
 |[]=>.nil| a::l=>.cons a.le_refl (dK.refl l)
def dK.trans:∀ {a b c},dK a b->dK b c->dK a c
 |_,_,_,.nil,.nil=>.nil| _,_,_,.cons h t,.cons bq bj=>.cons (h.trans bq) (t.trans bj)
def dK.antisymm:∀ {a b},dK a b->dK b a->a=b
 |_,_,.nil,_=>rfl| _,_,.cons h t,.cons bq bj=>by rw[h.antisymm bq,t.antisymm bj]
def dK.len:∀ {a b},dK a b->a.length=b.length
 |_,_,.nil=>rfl| _,_,.cons h t=>by simp[t.len]
def dK.append:∀ {a b c d},dK a b->dK c d->dK (a++c) (b++d)
 |_,_,_,_,.nil,h=>h| _,_,_,_,.cons h t,bq=>.cons h (t.append bq)
def dK.getD:∀ {a b},dK a b->∀ i,(a.getD i bK).le (b.getD i bK)
 |_,_,.nil,i=>by simp;exact aI.le_refl _
 |_,_,.cons h t,0=>h| _,_,.cons h t,i+1=>by simpa using t.getD i
def dK.of:∀ {a b:List aI},a.length=b.length->(∀ i,i<a.length->(a.getD i bK).le (b.getD i bK))->dK a b
 |[],[],_,_=>.nil| x::a,y::b,av,h=>.cons (by simpa using h 0 (by simp)) (dK.of (by simpa using av) λi hi=>by simpa using h (i+1) (by simpa using hi))
def dK.map{α:Type}{f g:α->aI}:∀ {l:List α},(∀ x∈l,(f x).le (g x))->dK (l.map f) (l.map g)
 |[],_=>.nil| x::l,h=>.cons (h x (.head _)) (dK.map λy aD=>h y (.tail _ aD))
def dK.head{a b:List aI}(h:dK a b):(a.headD bK).le (b.headD bK):=by
 cases h with
 |nil=>exact aI.le_refl _| cons h _=>exact h
def dK.C4:∀ l:List aI,dK (List.replicate l.length bK) l
 |[]=>.nil| a::l=>.cons a.C4 (dK.C4 l)
def RZ:∀ {a b:List aI},dK a b->∀ {x y:aI×Bool},x.1.le y.1->(x.2=true->y.2=true)->(a.foldl jA x).1.le (b.foldl jA y).1/\((a.foldl jA x).2=true->(b.foldl jA y).2=true)
 |_,_,.nil,_,_,aa,ad=>⟨aa,ad⟩
 |_,_,.cons h t,x,y,aa,ad=>by
  refine RZ t ⟨?_,?_,?_⟩ ?_;·simp only[jA,b'];exact λg=>⟨aa.z g.1,h.z g.2⟩
  ·simp only[jA,jP];exact λg=>g.imp aa.s h.s
  ·simp only[jA,jP,b'];exact λg=>g.imp aa.f λg=>⟨ad g.1,h.f g.2⟩
  ·simp only[jA,b'];exact λg=>⟨ad g.1,aI.KB h g.2⟩
def R0:∀ {a b:List aI},dK a b->∀ {x y:aI},x.le y->(a.foldl mT x).le (b.foldl mT y)
 |_,_,.nil,_,_,aa=>aa
 |_,_,.cons h t,x,y,aa=>by
  refine R0 t ⟨?_,?_,?_⟩;·simp only[mT,jP,b'];exact λg=>g.imp aa.z λg=>⟨aa.f g.1,h.z g.2⟩
  ·simp only[mT,jP,b'];exact λg=>g.imp aa.s λg=>⟨aa.f g.1,h.s g.2⟩
  ·simp only[mT,b'];exact λg=>⟨aa.f g.1,h.f g.2⟩
def ab0(d:an){a b:aI}(h:a.le b):(uO d a).le (uO d b):=by
 unfold uO;cases decide (d.hi=0)with
 |true=>exact aI.le_refl _
 |false=>
  refine⟨?_,h.s,?_⟩;·simp only[b0,jP,b'];exact λg=>g.imp h.z λg=>⟨g.1,h.f g.2⟩
  ·simp only[b0,b'];exact λg=>⟨g.1,h.f g.2⟩
def ab1(d:an){a b:List aI}(h:dK a b):(fH d a).le (fH d b):=by
 have cK:=h.head;unfold fH;cases decide (d.k=0)with
 |true=>exact aI.le_refl _| false=>
 cases decide (d.k=1)with
 |true=>exact aI.le_refl _| false=>
 cases decide (d.k=2)with
 |true=>exact aI.le_refl _| false=>
 cases decide (d.k=3)with
 |true=>exact cK| false=>
 cases decide (d.k=4)with
 |true=>have ar:=RZ h (x:=(⟨true,false,false⟩,true)) (y:=(⟨true,false,false⟩,true)) (aI.le_refl _) id;refine⟨ar.1.z,?_,ar.1.f⟩;simp only[bZ,b0,gQ,gP,b'];exact λg=>⟨ar.1.s g.1,ar.2 g.2⟩
 |false=>
 cases decide (d.k=5)with
 |true=>exact R0 h (aI.le_refl _)| false=>
 cases decide (d.k=6)with
 |true=>exact ab0 d cK| false=>
 cases decide (d.k=7)with
 |true=>exact⟨aI.KB cK,id,cK.f⟩| false=>
 cases decide (d.k=8)with
 |true=>exact⟨cK.f,id,aI.KB cK⟩| false=>exact cK
def ab2{bn wv aP q7:List aI}(h:dK bn wv)(aY:dK aP q7)(d:an):dK (qb pl bn aP d) (qb pl wv q7 d):=by
 unfold qb;refine(dK.map λk _=>aY.getD _).append ?_;cases decide (d.k=3)with
 |true=>exact .cons (h.getD _) .nil| false=>exact .nil
def R1{pl:List (ByteArray×Int)}{bn wv:List aI}(h:dK bn wv):∀ (ds:List an) {aP q7:List aI},dK aP q7->dK (dF pl bn ds aP) (dF pl wv ds q7)
 |[],_,_,aY=>aY| d::ds,_,_,aY=>R1 h ds (aY.append (.cons (ab1 d (ab2 h aY d)) .nil))
def hh(pl:List (ByteArray×Int))(bn:List aI)(d:a2):aI:=(dF pl bn d.t.ns []).getD d.t.bm.toNat bK
def C5{bn wv:List aI}(h:dK bn wv)(d:a2):(hh pl bn d).le (hh pl wv d):=(R1 h d.t.ns .nil).getD _
def lL(pl:List (ByteArray×Int)):Nat->List a2->List aI->List aI
 |_,[],l=>l| i,d::ds,l=>lL pl (i+1) ds (l.set i (hh pl l d))
structure mV(ds:List a2)(l:List aI):Prop where
 len:l.length=ds.length
 up:∀ i (h:i<ds.length),(l.getD i bK).le (hh (bp ds) l ds[i])
 least:∀ m:List aI,m.length=ds.length->(∀ i (h:i<ds.length),(hh (bp ds) m ds[i]).le (m.getD i bK))->dK l m
def C6(l:List aI)(i j:Nat)(x:aI)(hi:i<l.length):(l.set i x).getD j bK=if i=j then x else l.getD j bK:=by
 simp only[cv,kl];by_cases e:i=j
 ·subst e;simp[hi]
 ·rw[ca e,ca e]
def mV.start(ds:List a2):mV ds (List.replicate ds.length bK):=by
 refine⟨by simp,λi h=>?_,λm hm _=>by rw[<-hm];exact dK.C4 m⟩;have:(List.replicate ds.length bK).getD i bK=bK:=by simp[cv,h]
 rw[this];exact aI.C4 _
def mV.step{ds:List a2}{l:List aI}(h:mV ds l){i:Nat}(hi:i<ds.length):mV ds (l.set i (hh (bp ds) l ds[i]))/\dK l (l.set i (hh (bp ds) l ds[i])):=by
 have ev:i<l.length:=by rw[h.len];exact hi
 have bg:dK l (l.set i (hh (bp ds) l ds[i])):=dK.of (by simp) λj ai=>by
  rw[C6 _ _ _ _ ev];by_cases e:i=j;·subst e;rw[ck rfl];exact h.up i hi
  ·rw[ca e];exact aI.le_refl _
 refine⟨⟨by simpa using h.len,λj ai=>?_,λm hm au=>?_⟩,bg⟩
 ·rw[C6 _ _ _ _ ev];by_cases e:i=j
  ·subst e;rw[ck rfl];exact C5 bg _
  ·rw[ca e];exact(h.up j ai).trans (C5 bg _)
 ·have R2:=h.least m hm au;refine dK.of (by simp[h.len,hm]) λj ai=>?_;rw[C6 _ _ _ _ ev];by_cases e:i=j
  ·subst e;rw[ck rfl];exact(C5 R2 _).trans (au i hi)
  ·rw[ca e];exact R2.getD j
def KD{ds:List a2}:∀ (bc a5:List a2) {l:List aI},ds=a5++bc->mV ds l->mV ds (lL (bp ds) a5.length bc l)/\dK l (lL (bp ds) a5.length bc l) /\ (lL (bp ds) a5.length bc l=l->∀ i (h:i<ds.length),a5.length<=i->l.getD i bK=hh (bp ds) l ds[i])
 |[],a5,l,e2,h=>⟨h,dK.refl l,λ_ i hi cV=>by rw[e2,ee]at hi;omega⟩
 |d::bc,a5,l,e2,h=>by
  have hi:a5.length<ds.length:=by rw[e2];simp
  have aj:ds[a5.length]=d:=by simp[e2]
  have ev:a5.length<l.length:=by rw[h.len];exact hi
  obtain⟨s1,s2⟩:=h.step hi;rw[aj]at s1 s2;obtain⟨gA,kp,oe⟩:=KD bc (a5++[d]) (by rw[e2];simp) s1;rw[cL,ea,gL,c9]at gA kp oe;refine⟨gA,s2.trans kp,λe i h0 cV=>?_⟩;have aA:l.set a5.length (hh (bp ds) l d)=l:=by refine dK.antisymm ?_ s2;have:lL (bp ds) a5.length (d::bc) l=lL (bp ds) (a5.length+1) bc (l.set a5.length (hh (bp ds) l d)):=rfl;rw[this]at e;rw[e]at kp;exact kp
  have a0:lL (bp ds) (a5.length+1) bc l=l:=by have:lL (bp ds) a5.length (d::bc) l=lL (bp ds) (a5.length+1) bc (l.set a5.length (hh (bp ds) l d)):=rfl;rw[this,aA]at e;exact e
  rw[aA]at oe;by_cases aO:i=a5.length;·subst aO;have aL:=C6 l a5.length a5.length (hh (bp ds) l d) ev;rw[aA,ck rfl]at aL;rw[aL,aj]
  ·exact oe a0 i h0 (by omega)
structure iv(ds:List a2)(l:List aI):Prop where
 len:l.length=ds.length
 fix:∀ i (h:i<ds.length),l.getD i bK=hh (bp ds) l ds[i]
 least:∀ m:List aI,m.length=ds.length->(∀ i (h:i<ds.length),(hh (bp ds) m ds[i]).le (m.getD i bK))->dK l m
def mV.done{ds:List a2}{l:List aI}(h:mV ds l)(az:lL (bp ds) 0 ds l=l):iv ds l:=
 ⟨h.len,λi hi=>(KD ds [] rfl h).2.2 az i hi (dO _),h.least⟩
def iv.unique{ds:List a2}{l ed:List aI}(h:iv ds l)(bq:iv ds ed):l=ed:=
 dK.antisymm (h.least ed bq.len λi hi=>by rw[<-bq.fix i hi];exact aI.le_refl _) (bq.least l h.len λi hi=>by rw[<-h.fix i hi];exact aI.le_refl _)
def Am(x:aI):Nat:=(bif x.z then 0 else 1)+((bif x.s then 0 else 1)+(bif x.f then 0 else 1))
def wx(l:List aI):Nat:=(l.map Am).sum
def ab3{a b:aI}(h:a.le b):Am b<=Am a/\(Am a<=Am b->a=b):=by
 obtain⟨cf,dw,dM⟩:=a;obtain⟨b1,cd,fF⟩:=b;obtain⟨aa,ad,al⟩:=h;cases cf<;>cases b1<;>cases dw<;>cases cd<;>cases dM<;>cases fF<;>simp_all[Am]
def R3:∀ {l m:List aI},dK l m->wx m<=wx l/\(wx l<=wx m->l=m)
 |_,_,.nil=>⟨cI _,λ_=>rfl⟩| _,_,.cons h t=>by obtain⟨aa,ad⟩:=ab3 h;obtain⟨t1,t2⟩:=R3 t;simp only[wx,cc,jb]at t1 t2 |-;refine⟨by omega,λh=>?_⟩;rw[ad (by omega),t2 (by omega)]
def ab4{l m:List aI}(h:dK l m)(bs:m≠l):wx m<wx l:=by obtain⟨aa,ad⟩:=R3 h;apply Nat.lt_of_le_of_ne aa;intro e;exact bs (ad (by omega)).symm
def uP(nm:ByteArray):List a2->Nat->Option Int
 |[],_=>none| d::ds,i=>bif decide (nm=d.name)then some (i:Int)else uP nm ds (i+1)
def R4(s n:ByteArray)(v:Int):∀ l:List (ByteArray×Int),dz s (l++[(n,v)])=match dz s l with
  |some x=>some x| none=>bif decide (s=n)then some v else none
 |[]=>rfl
 |p::l=>by
  have aR:=R4 s n v l;simp only[qO,dz];cases decide (s=p.1)with
  |true=>rfl| false=>simpa using aR
def R5:∀ (ds:List a2) (aP:List (ByteArray×Int)) (i:Nat) (nm:ByteArray),dz nm (ma aP i ds)=match dz nm aP with
  |some x=>some x| none=>uP nm ds i
 |[],aP,i,nm=>by rw[ma,uP];cases dz nm aP<;>rfl
 |d::ds,aP,i,nm=>by
  rw[ma,R5 ds,uP];cases aj:(dz d.name aP).isSome with
  |true=>
   simp only[bZ];cases av:dz nm aP with
   |some x=>rfl
   |none=>
    have:decide (nm=d.name)=false:=by rw[pM];intro e;rw[<-e,av]at aj;cases aj
    rw[this];rfl
  |false=>
   simp only[b0,R4];cases av:dz nm aP with
   |some x=>rfl| none=>cases decide (nm=d.name)<;>rfl
def KE(ds:List a2)(nm:ByteArray):dz nm (bp ds)=uP nm ds 0:=R5 ds [] 0 nm
def KF:∀ {ds:List a2} {i:Nat} {nm:ByteArray} {v:Int},uP nm ds i=some v->∃ j:Nat,v=((i+j:Nat):Int)/\j<ds.length
 |d::ds,i,nm,v,h=>by
  unfold uP at h;cases aj:decide (nm=d.name)with
  |true=>rw[aj]at h;simp only[bZ,jl]at h;exact⟨0,by rw[<-h];rfl,by simp⟩| false=>rw[aj]at h;obtain⟨j,aa,ad⟩:=KF h;exact⟨j+1,by rw[aa];congr 1;omega,by simpa using ad⟩
def tk(pl:List (ByteArray×Int))(ns:List an):Bool:=ns.all λd=>!decide (d.k=3)||(dz d.t pl).isSome
def R6{ds:List a2}(h:tk (bp ds) ns=true):RT (bp ds) ds.length ns:=by intro d aj ae;have:=fL.1 h d aj;simp only[ae,F4,sW,rG]at this;obtain⟨v,ag⟩:=Option.isSome_iff_exists.1 this;have jK:=ag;rw[KE]at jK;obtain⟨j,aa,ad⟩:=KF jK;rw[c9]at aa;exact⟨j,by rw[ag,aa],ad⟩
def R7:∀ (ds:List a2) {aP r:List (ByteArray×Int)} {i:Nat},ko aP i ds=some r->ma aP i ds=r
 |[],aP,r,i,h=>by simp only[ko,jl]at h;exact h
 |d::ds,aP,r,i,h=>by
  unfold ko at h;cases aj:(dz d.name aP).isSome with
  |true=>rw[aj]at h;cases h| false=>rw[aj]at h;rw[ma,aj];exact R7 ds h
def ab5{d:a2}{bX:an}(aJ:bX∈d.t.ns):∀ (ds:List a2) (i:Nat),d∈ds->∃ j,(j,bX)∈oa i ds:=by
 intro ds
 induction ds with
 |nil=>intro i aj;cases aj
 |cons x ds aR=>
  intro i aj;rcases dW.1 aj with e | aj;·subst e;exact⟨i,cO.2 (.inl (cG.2 ⟨bX,aJ,rfl⟩))⟩
  ·obtain⟨j,ai⟩:=aR (i+1) aj;exact⟨j,cO.2 (.inr ai)⟩
def ab6(h:eH aF g=0):∀ d∈g.ds,tk (bp g.ds) d.t.ns=true:=by
 unfold eH at h;cases aa:decide ((g.n:Int)=0)with
 |true=>rw[aa]at h;cases h| false=>
 cases ad:nw g.ds with
 |false=>rw[aa,ad]at h;cases h| true=>
 cases al:n' aF g with
 |true=>rw[aa,ad,al]at h;cases h| false=>
 rw[aa,ad,al]at h;simp only[b0,sW]at h;split at h
 ·cases h
 ·rename_i aP kD;have aO:bp g.ds=aP:=R7 g.ds kD;cases aL:pd aP g.ds with
  |false=>rw[aL]at h;cases h| true=>intro d aj;rw[aO,tk,fL];intro bX bJ;obtain⟨j,ai⟩:=ab5 bJ g.ds 0 aj;exact fL.1 aL _ ai
def ab7(h:eH aF g=0):nw g.ds=true:=by
 unfold eH at h;cases aa:decide ((g.n:Int)=0)with
 |true=>rw[aa]at h;cases h| false=>
 cases ad:nw g.ds with
 |false=>rw[aa,ad]at h;cases h| true=>rfl
def lK.mono{a:Option Addr}{n:Nat}{ks:List aI}(h:lK I M a n ks)(bC:∀ b o,I b=some o->I' b=some o):lK I' M a n ks:=
 ⟨h.n,λj ai=>by
  obtain⟨aV,aa,ad⟩:=h.rd j ai;exact⟨aV,aa,ad.mono bC⟩⟩
def Gl{b:Nat}{l:List aI}(a3:eY b l∈M):lK I M (some ⟨b,0,none⟩) l.length l:=
 ⟨rfl,λj ai=>⟨_,rfl,Ah a3 ai⟩⟩
def wy(g:eo)(bn:List aI)(t:bw):Option (List aI):=bif decide (bn.length=g.n)&&(right t&&tk (bp g.ds) t.ns)then some (dF (bp g.ds) bn t.ns [])else none
def ab8(bl:gg I aF)(ax:g.ok I)(aw:t.ok I){bn:List aI}(k2:lK I M0 p8 ln bn) :
  Spec Tryz.prog 159 [g.val,.slice p8 ln lc,t.val] I M0 λv I' M'=>(∀ b o,I b=some o->I' b=some o) /\
   ((wy g bn t=none/\v=.tuple #[.slice none 0 0,.bool false]/\M'=M0)\/∃ r b,wy g bn t=some r/\v=.tuple #[.slice (some ⟨b,0,none⟩) t.n t.n,.bool true]/\M'=eY b r::M0):=by
 refine cp [] a4 Tryz.func159 rfl rfl rfl ?_;intro B ay;have jw:=ax.n;have l9:=aw.n;have iN:=aw.bb.cap;have R8:=k2.n;refine cP.mk (λh=>?_) (λh=>?_)
 rotate_left
 ·refine⟨_,_,.refl,λ_ _ h=>h,.inl ⟨?_,rfl,rfl⟩⟩;have bs:¬ (ln:Int)=(g.n:Int):=by simpa using h
  have:decide (bn.length=g.n)=false:=eU (by omega);simp[wy,this]
 have qc:ln=g.n:=by
  have:(ln:Int)=(g.n:Int):=by simpa using h
  omega
 have hv:decide (bn.length=g.n)=true:=h6 (by omega);refine bd.mk [] M0 _ (.refl _) (rQ bl.c aw) ?_;rintro v cT M1 -⟨rfl,rfl,rfl⟩;refine a9.mk (λh=>?_) (λh=>?_)
 ·refine⟨_,_,.refl,λ_ _ h=>h,.inl ⟨?_,rfl,rfl⟩⟩;have:right t=false:=by simpa using h
  simp[wy,this]
 have af:right t=true:=by simpa using h
 refine bd.mk [] M0 _ (.refl _) (RQ ax) ?_;rintro v eE dB -⟨gd,rfl,gY,rfl,An⟩;have n7:=aw.mono gd;refine dI.inv (ι:=Nat) (λx=>{ bn:=[(1,.val (.slice p8 ln lc)),(3,.ref 3 0),(5,.ref 5 0),(8,.val (.map (some gY))),(27,.val (.slice t.a t.n t.c)),(28,.val (.int .i64 t.n)),(29,.val (.int .i64 x))],cl:=[(3,[.slice g.a g.n g.c]),(5,t.cells)],c2:=eE,dx:=M0 }) (λx=>x<=t.n/\∀ d∈t.ns.take x,(!decide (d.k=3)||(dz d.t (bp g.ds)).isSome)=true) (λx=>t.n-x) ?_ ?_
 ·exact⟨0,⟨dO _,λd aj=>by simp at aj⟩,.refl,qB,.cons rfl (.cons rfl .nil)⟩
 rintro i⟨hi,nN⟩;refine a9.mk (λh=>?_) (λh=>?_)
 ·have aW:i<t.n:=by have:(i:Int)<(t.n:Int):=dV h;omega
  have cy:i<t.ns.length:=by omega
  obtain⟨aV,bU,bB⟩:=n7.bb.row an.da aW cy;have uq:t.ns.take (i+1)=t.ns.take i++[t.ns[i]]:=gD cy;have gE:=b9 cy;have next:(!decide (t.ns[i].k=3)||(dz t.ns[i].t (bp g.ds)).isSome)=true->∀ d∈t.ns.take (i+1),(!decide (d.k=3)||(dz d.t (bp g.ds)).isSome)=true:=λh d aj=>by
   rw[uq]at aj;rcases cO.1 aj with aj | aj;·exact nN d aj
   ·simp only[eK]at aj;rw[aj];exact h
  refine bu.mk aV i bU rfl aW ?_;refine aZ.mk _ (bB _) ?_;refine a9.mk (λal=>?_) (λal=>?_);·refine bi.mk _ (de (i:=i) (by omega)) ?_;refine⟨i+1,⟨⟨by omega,next ?_⟩,by omega⟩,.refl,qB,.cons rfl (.cons rfl .nil)⟩;rw[show(!decide (t.ns[i].k=3))=true from al];rfl
  ·refine br.RP a4 rfl (by simp) rfl rfl rfl rfl (λw=>CQ w) (l:=bp g.ds) (g:=gY) rfl rfl (.inl An) ?_;refine a9.mk (λaL=>?_) (λaL=>?_)
   ·refine⟨_,_,.refl,gd,.inl ⟨?_,rfl,rfl⟩⟩;have bG:tk (bp g.ds) t.ns=false:=by
     rw[tk,Fz];refine⟨_,gE,?_⟩;have cr:(dz t.ns[i].t (bp g.ds)).isSome=false:=by simpa using aL
     rw[cr,show(!decide (t.ns[i].k=3))=false from al];simp
    simp[wy,bG]
   ·refine bi.mk _ (de (i:=i) (by omega)) ?_;refine⟨i+1,⟨⟨by omega,next ?_⟩,by omega⟩,.refl,qB,.cons rfl (.cons rfl .nil)⟩;have cr:(dz t.ns[i].t (bp g.ds)).isSome=true:=by simpa using aL
    rw[cr];simp
 have cV:i=t.n:=by have:¬ (i:Int)<(t.n:Int):=eO h;omega
 rw[fT (by omega)]at nN;have dR:tk (bp g.ds) t.ns=true:=fL.2 nN;have Ao:=R6 dR;rw[jw,<-qc]at Ao;refine bd.mk M0 [] _ perm_nil (RW n7 af An (k2.mono gd) Ao) ?_;rintro v ki s9 -⟨rfl,b,rfl,rfl⟩;rw[ee];exact⟨_,_,.refl,gd,.inr ⟨_,b,by rw[wy,hv,af,dR];rfl,rfl,rfl⟩⟩
structure tl(g:eo):Prop where
 n:g.ds.length=g.n
 right:∀ d∈g.ds,right d.t=true
 named:∀ d∈g.ds,tk (bp g.ds) d.t.ns=true
def Gm(aJ:g.ds.length=g.n)(h:eH aF g=0):tl g:=by refine⟨aJ,λd aj=>?_,ab6 h⟩;have:=fL.1 (ab7 h) d aj;simp only[normal,b']at this;exact this.2.1
def ofM(b6 gY ey fA b1:Nat)(g:eo)(l:List aI):List aE:=[⟨b6,.cells #[.map (some gY)] 102 (0,0)⟩,⟨ey,.cells #[.slice (some ⟨fA,0,none⟩) g.n g.n] 223 (0,0)⟩,eY fA l,⟨b1,.cells #[.slice g.a g.n g.c] 24 (0,0)⟩]
def C7(a b c d:α):[a,b,c,d].Perm ([c]++[a,b,d]):=nu (l₁:=[a,b]) (l₂:=[d])
def ab9(x a b c d:α):[x,a,b,c,d].Perm ([c]++[x,a,b,d]):=nu (l₁:=[x,a,b]) (l₂:=[d])
def Gn{b:Nat}{f:aI}(a3:(⟨b,.cells f.cells.toArray 270 (0,0)⟩:aE)∈M):c7 I M (⟨b,0,none⟩:Addr) 3 f.cells:=⟨rfl,_,_,_,.inr ⟨_,a3,rfl,rfl⟩,rfl,rfl⟩
def R9{l:List aI}{i:Nat}(hi:i<l.length){x:aI}:Nat.ble (0+i*3+x.cells.length) (l.flatMap aI.cells).length=true:=by rw[nv,yz,aI.da];omega
def cn.pg{a:Addr}{K:List aE->Prop}(a5 post:List aE)(cs:Array Value)(T:Nat)(a3:M=a5++⟨a.block,.cells cs T (0,0)⟩::post)(ar:a.spot=none)(ah:Nat.ble (a.off+vs.length) cs.size=true)(aa:fN vs=true)(cs':List Value)(he:bQ cs.toList a.off vs=cs')(k:K (a5++⟨a.block,.cells cs'.toArray T (0,0)⟩::post)):cn M a vs K:=
 ⟨a5,post,cs,T,a3,ar,bH ah,aa,by rw[he];exact k⟩
def aca(ax:g.ok I)(hm:tl g){b6 ey fA b1:Nat}(An:I gY=some (h8 (bp g.ds))){eL:List aI}(xF:mV g.ds eL) :
  Spec Tryz.prog 198 [ptr b1,ptr b6,ptr ey] I (ofM b6 gY ey fA b1 g eL) λv I' M'=>v=.bool (decide (lL (bp g.ds) 0 g.ds eL≠eL))/\I'=I/\M'=ofM b6 gY ey fA b1 g (lL (bp g.ds) 0 g.ds eL):=by
 refine cp [] a4 Tryz.func198 rfl rfl rfl ?_;intro B ay;have jw:=ax.n;have iN:=ax.bb.cap;have acb:∀ {M:List aE},(⟨b1,.cells #[.slice g.a g.n g.c] 24 (0,0)⟩:aE)∈M->c7 I M ((⟨b1,0,none⟩:Addr).add 0) 1 [.slice g.a g.n g.c]:=λa3=>cX (cs:=[.slice g.a g.n g.c]) (k:=0) (n:=1) a3 (by simp);have acc:∀ {M:List aE},(⟨b6,.cells #[.map (some gY)] 102 (0,0)⟩:aE)∈M->c7 I M (⟨b6,0,none⟩:Addr) 1 [.map (some gY)]:=λa3=>⟨rfl,_,_,_,.inr ⟨_,a3,rfl,rfl⟩,rfl,rfl⟩;have C8:∀ {M:List aE},(⟨ey,.cells #[.slice (some ⟨fA,0,none⟩) g.n g.n] 223 (0,0)⟩:aE)∈M->c7 I M (⟨ey,0,none⟩:Addr) 1 [.slice (some ⟨fA,0,none⟩) g.n g.n]:=λa3=>⟨rfl,_,_,_,.inr ⟨_,a3,rfl,rfl⟩,rfl,rfl⟩;refine aZ.mk _ (acb (by simp[ofM])) ?_;refine dI.inv (ι:=Nat×List aI) (λx=>{ bn:=[(0,.val (ptr b1)),(1,.val (ptr b6)),(2,.val (ptr ey)),(4,.val (.bool (decide (x.2≠eL)))),(9,.val (.slice g.a g.n g.c)),(10,.val (.int .i64 g.n)),(11,.val (.int .i64 x.1))],c2:=I,dx:=ofM b6 gY ey fA b1 g x.2 }) (λx=>x.1<=g.n/\mV g.ds x.2/\dK eL x.2/\lL (bp g.ds) 0 g.ds eL=lL (bp g.ds) x.1 (g.ds.drop x.1) x.2) (λx=>g.n-x.1) ?_ ?_
 ·refine⟨(0,eL),⟨dO _,xF,dK.refl _,rfl⟩,.refl,.cons .refl (.cons .refl (.cons .refl (.cons ?_ (g1)))),.nil⟩;exact Gj (by simp)
 rintro⟨i,l⟩⟨hi,q8,bg,jg⟩;simp only at hi q8 bg jg;have lZ:=q8.len;refine a9.mk (λh=>?_) (λh=>?_)
 rotate_left
 ·have cV:i=g.n:=by have:¬ (i:Int)<(g.n:Int):=eO h;omega
  rw[ls (by omega),lL]at jg;exact⟨_,_,.refl,by rw[jg],rfl,by rw[jg]⟩
 have aW:i<g.n:=by have:(i:Int)<(g.n:Int):=dV h;omega
 have cy:i<g.ds.length:=by omega
 have ev:i<l.length:=by omega
 obtain⟨aV,bU,bB⟩:=ax.bb.row a2.da aW cy;have gh:=b9 cy;have aj:=ax.ds _ gh;have af:=hm.right _ gh;have Ao:=R6 (hm.named _ gh);rw[show g.ds.length=l.length from lZ.symm]at Ao;obtain⟨q9,pI⟩:=q8.step cy;have uQ:lL (bp g.ds) 0 g.ds eL=lL (bp g.ds) (i+1) (g.ds.drop (i+1)) (l.set i (hh (bp g.ds) l g.ds[i])):=by rw[jg,e6 cy,lL]
 have C9:hh (bp g.ds) l g.ds[i]=(dF (bp g.ds) l g.ds[i].t.ns []).getD g.ds[i].t.bm.toNat bK:=rfl;generalize hh (bp g.ds) l g.ds[i]=f at q9 pI uQ C9;generalize g.ds[i]=d at bB aj af Ao C9;have mN:=kG af;have l9:=aj.t.n;have oW:=C1 (bp g.ds) l d.t.ns [];simp only[gL,c9]at oW;have eh:d.t.bm.toNat<(dF (bp g.ds) l d.t.ns []).length:=by omega
 have sS:(dF (bp g.ds) l d.t.ns [])[d.t.bm.toNat]=f:=by rw[C9];simp[cv,eh]
 have KG:=RW (M0:=[eY fA l]) (ln:=l.length) (lc:=g.n) aj.t af An (Gl (I:=I) (eK.2 rfl)) Ao;rw[show l.length=g.n by omega]at KG;refine bu.mk aV i bU rfl aW ?_;refine aZ.mk _ (bB _) ?_;have acd:l.getD i bK=l[i]:=by simp[cv,ev]
 have more:(!decide (f=l[i]))=true->decide (l.set i f≠eL)=true:=λh=>by
  have bs:f≠l[i]:=by simpa using h
  rw[hk];intro e;have a0:l.set i f=l:=by refine dK.antisymm ?_ pI;rw[e];exact bg
  have al:=C6 l i i f ev;rw[a0,ck rfl,acd]at al;exact bs al.symm
 have same:(!decide (f=l[i]))=false->l.set i f=l:=λh=>by
  have he:f=l[i]:=by simpa using h
  rw[he];exact List.set_getElem_self ev
 refine dh.draw a4 rfl rfl rfl ?_;refine aZ.mk _ (acc (by simp[ofM])) ?_;refine aZ.mk _ (C8 (by simp[ofM])) ?_;refine⟨?_,?_⟩
 ·refine fv.mD [eY fA l] [⟨b6,.cells #[.map (some gY)] 102 (0,0)⟩,⟨ey,.cells #[.slice (some ⟨fA,0,none⟩) g.n g.n] 223 (0,0)⟩,⟨b1,.cells #[.slice g.a g.n g.c] 24 (0,0)⟩] _ (C7 ..) KG (λv I' M' h x ab=>by obtain⟨-,b,-,rfl⟩:=h;exact .tail _ ab) ?_;rintro v eE dB -⟨rfl,b,rfl,rfl⟩;refine bu.mk ⟨b,0,none⟩ d.t.bm.toNat rfl (by omega) (by omega) ?_;refine aZ.mk _ (Ah (.head _) eh) ?_;rw[sS];refine cJ.mk λb7 yB Gp=>?_;refine cn.pg [] [eY b (dF (bp g.ds) l d.t.ns []),eY fA l,⟨b6,.cells #[.map (some gY)] 102 (0,0)⟩,⟨ey,.cells #[.slice (some ⟨fA,0,none⟩) g.n g.n] 223 (0,0)⟩,⟨b1,.cells #[.slice g.a g.n g.c] 24 (0,0)⟩] _ _ rfl rfl rfl rfl f.cells rfl ?_;refine dh.draw a4 rfl rfl rfl ?_;refine aZ.mk f.cells (Gn (by simp)) ?_;refine aZ.mk _ (C8 (by simp)) ?_;refine bu.mk ⟨fA,0,none⟩ i rfl rfl aW ?_;refine aZ.mk _ (Ah (by simp) ev) ?_;refine ft.RI (p:=f) (q:=l[i]) ?_;refine a9.mk (λh=>?_) (λh=>?_)
  ·refine aZ.mk _ (C8 (by simp)) ?_;refine aZ.mk f.cells (Gn (by simp)) ?_;refine bu.mk ⟨fA,0,none⟩ i rfl rfl aW ?_;refine cn.iM [(⟨b7,.cells f.cells.toArray 270 (0,0)⟩:aE),eY b (dF (bp g.ds) l d.t.ns [])] [⟨b6,.cells #[.map (some gY)] 102 (0,0)⟩,⟨ey,.cells #[.slice (some ⟨fA,0,none⟩) g.n g.n] 223 (0,0)⟩,⟨b1,.cells #[.slice g.a g.n g.c] 24 (0,0)⟩] (l.flatMap aI.cells) _ rfl (R9 ev) rfl ((l.set i f).flatMap aI.cells) (by rw[c9];exact Kz l i ev f) ?_;refine bi.mk _ (de (i:=i) (by omega)) ?_;refine⟨(i+1,l.set i f),⟨⟨by simp only;omega,q9,bg.trans pI,uQ⟩,by simp only;omega⟩,.sub (M1:=[eY fA (l.set i f),⟨b6,.cells #[.map (some gY)] 102 (0,0)⟩,⟨ey,.cells #[.slice (some ⟨fA,0,none⟩) g.n g.n] 223 (0,0)⟩,⟨b1,.cells #[.slice g.a g.n g.c] 24 (0,0)⟩]) (by exact .cons _ (.cons _ (.refl _))) (.perm (C7 ..).symm .refl),.cons .refl (.cons .refl (.cons .refl (.cons (Gj (more h).symm) (g1)))),.nil⟩
  ·have he:l.set i f=l:=same h;rw[he]at uQ;refine bi.mk _ (de (i:=i) (by omega)) ?_;exact⟨(i+1,l),⟨⟨by simp only;omega,q8,bg,uQ⟩,by simp only;omega⟩,.sub (M1:=[eY fA l,⟨b6,.cells #[.map (some gY)] 102 (0,0)⟩,⟨ey,.cells #[.slice (some ⟨fA,0,none⟩) g.n g.n] 223 (0,0)⟩,⟨b1,.cells #[.slice g.a g.n g.c] 24 (0,0)⟩]) (by exact .cons _ (.cons _ (.refl _))) (.perm (C7 ..).symm .refl),qB,.nil⟩
 ·refine cJ.mk λb7 yB Gp=>?_;refine fv.mD [eY fA l] [(⟨b7,.cells bK.cells.toArray 270 (0,0)⟩:aE),⟨b6,.cells #[.map (some gY)] 102 (0,0)⟩,⟨ey,.cells #[.slice (some ⟨fA,0,none⟩) g.n g.n] 223 (0,0)⟩,⟨b1,.cells #[.slice g.a g.n g.c] 24 (0,0)⟩] _ (ab9 ..) KG (λv I' M' h x ab=>by obtain⟨-,b,-,rfl⟩:=h;exact .tail _ ab) ?_;rintro v eE dB -⟨rfl,b,rfl,rfl⟩;refine bu.mk ⟨b,0,none⟩ d.t.bm.toNat rfl (by omega) (by omega) ?_;refine aZ.mk _ (Ah (.head _) eh) ?_;rw[sS];refine cn.pg [eY b (dF (bp g.ds) l d.t.ns []),eY fA l] [⟨b6,.cells #[.map (some gY)] 102 (0,0)⟩,⟨ey,.cells #[.slice (some ⟨fA,0,none⟩) g.n g.n] 223 (0,0)⟩,⟨b1,.cells #[.slice g.a g.n g.c] 24 (0,0)⟩] _ _ rfl rfl rfl rfl f.cells rfl ?_;refine dh.draw a4 rfl rfl rfl ?_;refine aZ.mk f.cells (Gn (by simp)) ?_;refine aZ.mk _ (C8 (by simp)) ?_;refine bu.mk ⟨fA,0,none⟩ i rfl rfl aW ?_;refine aZ.mk _ (Ah (by simp) ev) ?_;refine ft.RI (p:=f) (q:=l[i]) ?_;refine a9.mk (λh=>?_) (λh=>?_)
  ·refine aZ.mk _ (C8 (by simp)) ?_;refine aZ.mk f.cells (Gn (by simp)) ?_;refine bu.mk ⟨fA,0,none⟩ i rfl rfl aW ?_;refine cn.iM [eY b (dF (bp g.ds) l d.t.ns [])] [(⟨b7,.cells f.cells.toArray 270 (0,0)⟩:aE),⟨b6,.cells #[.map (some gY)] 102 (0,0)⟩,⟨ey,.cells #[.slice (some ⟨fA,0,none⟩) g.n g.n] 223 (0,0)⟩,⟨b1,.cells #[.slice g.a g.n g.c] 24 (0,0)⟩] (l.flatMap aI.cells) _ rfl (R9 ev) rfl ((l.set i f).flatMap aI.cells) (by rw[c9];exact Kz l i ev f) ?_;refine bi.mk _ (de (i:=i) (by omega)) ?_;refine⟨(i+1,l.set i f),⟨⟨by simp only;omega,q9,bg.trans pI,uQ⟩,by simp only;omega⟩,.sub (M1:=[eY fA (l.set i f),⟨b6,.cells #[.map (some gY)] 102 (0,0)⟩,⟨ey,.cells #[.slice (some ⟨fA,0,none⟩) g.n g.n] 223 (0,0)⟩,⟨b1,.cells #[.slice g.a g.n g.c] 24 (0,0)⟩]) (by exact .cons _ (.cons_cons _ (.cons _ (.refl _)))) (.perm (C7 ..).symm .refl),.cons .refl (.cons .refl (.cons .refl (.cons (Gj (more h).symm) (g1)))),.nil⟩
  ·have he:l.set i f=l:=same h;rw[he]at uQ;refine bi.mk _ (de (i:=i) (by omega)) ?_;exact⟨(i+1,l),⟨⟨by simp only;omega,q8,bg,uQ⟩,by simp only;omega⟩,.sub (M1:=[eY fA l,⟨b6,.cells #[.map (some gY)] 102 (0,0)⟩,⟨ey,.cells #[.slice (some ⟨fA,0,none⟩) g.n g.n] 223 (0,0)⟩,⟨b1,.cells #[.slice g.a g.n g.c] 24 (0,0)⟩]) (by exact .cons _ (.cons_cons _ (.cons _ (.refl _)))) (.perm (C7 ..).symm .refl),qB,.nil⟩
def ace(bl:gg I aF)(ax:g.ok I):Spec Tryz.prog 158 [g.val] I [] λv I' M'=>(∀ b o,I b=some o->I' b=some o) /\
  ((eH aF g≠0/\v=.tuple #[.slice none 0 0,.int .i64 (eH aF g)]/\M'=[])\/(eH aF g=0/\∃ b l,v=.tuple #[.slice (some ⟨b,0,none⟩) g.n g.n,.int .i64 0]/\M'=[eY b l]/\iv g.ds l)):=by
 refine cp [1,5,6] a4 Tryz.func158 rfl rfl rfl ?_;intro B ay;have jw:=ax.n;have iN:=ax.bb.cap;refine cJ.mk λb1 mH KH=>?_;refine aZ.mk [.slice g.a g.n g.c] ⟨rfl,_,_,_,.inr ⟨_,.head _,rfl,rfl⟩,rfl,rfl⟩ ?_;refine bd.mk [] [⟨b1,.cells #[.slice g.a g.n g.c] 24 (0,0)⟩] _ (.refl _) (Re bl ax) ?_;rintro v cT M1 -⟨rfl,dg,rfl⟩;refine a9.mk (λh=>?_) (λh=>?_)
 ·have hm:eH aF g≠0:=by simpa using h
  exact⟨_,_,.sub (gn _) .refl,dg,.inl ⟨hm,rfl,rfl⟩⟩
 have hm:eH aF g=0:=by simpa using h
 have a3:=Gm jw hm;refine aZ.mk _ (cX (b:=b1) (cs:=[.slice g.a g.n g.c]) (k:=0) (n:=1) (T:=24) (.head _) (by simp)) ?_;refine oB.mk g.n g.n rfl rfl (cI _) (by show 3*g.n<=_;omega) (by omega) ?_;refine cJ.mk λfA l2 alH=>?_;have e:rowOf bK.cells (g.n*3)=(List.replicate g.ds.length bK).flatMap aI.cells:=by rw[jw];exact RV g.n
 refine cJ.mk λey F5 F6=>?_;refine cn.pg [] _ _ _ rfl rfl rfl rfl [.slice (some ⟨fA,0,none⟩) g.n g.n] rfl ?_;refine aZ.mk [.slice g.a g.n g.c] ⟨rfl,_,_,_,.inr ⟨_,.tail _ (.tail _ (.head _)),rfl,rfl⟩,rfl,rfl⟩ ?_;refine bd.mk [] _ _ (.refl _) (RQ (ax.mono dg)) ?_;rintro v eE dB -⟨gd,rfl,gY,rfl,An⟩;refine cJ.mk λb6 JX Q6=>?_;refine cn.pg [] _ _ _ rfl rfl rfl rfl [.map (some gY)] rfl ?_;refine dI.inv (ι:=List aI) (λl=>{ bn:=[(5,.val (ptr ey)),(7,.val (.func (.func 198) #[] #[ptr b1,ptr b6,ptr ey]))],c2:=eE,dx:=ofM b6 gY ey fA b1 g l }) (mV g.ds) wx ?_ ?_
 ·refine⟨List.replicate g.ds.length bK,.start g.ds,?_,uf,.nil⟩;simp only[ofM,eY];rw[<-e];exact .refl
 intro l av;refine bd.mk (ofM b6 gY ey fA b1 g l) [] _ (.refl _) (aca ((ax.mono dg).mono gd) a3 An av) ?_;rintro v ki s9 -⟨rfl,rfl,rfl⟩;obtain⟨gA,kp,-⟩:=KD g.ds [] rfl av;refine a9.mk (λh=>?_) (λh=>?_)
 ·exact⟨_,⟨gA,ab4 kp (dV h)⟩,.refl,uf,.nil⟩
 ·have az:lL (bp g.ds) 0 g.ds l=l:=by have:=eO h;exact Classical.not_not.1 this
  rw[az];refine aZ.mk [.slice (some ⟨fA,0,none⟩) g.n g.n] ⟨rfl,_,_,_,.inr ⟨_,.tail _ (.head _),rfl,rfl⟩,rfl,rfl⟩ ?_;refine⟨ki,[eY fA l],.sub (.cons _ (.cons _ (.cons_cons _ (gn _)))) .refl,λb o h=>gd _ _ (dg _ _ h),.inr ⟨hm,fA,l,rfl,rfl,av.done az⟩⟩
def bw.a6(t:bw):bw:=⟨t.ns.map an.a6,none,t.n,0,t.bm⟩
def a2.a6(d:a2):a2:=⟨d.name,d.t.a6⟩
def eo.a6(g:eo):eo:=⟨g.ds.map a2.a6,none,g.n,0⟩
def R':∀ (ds:List an) (i:Nat) (s:List Bool),h5 i (ds.map an.a6) s=h5 i ds s
 |[],i,s=>rfl| d::ds,i,s=>by have h:∀ bP,h5 (i+1) (ds.map an.a6) bP=h5 (i+1) ds bP:=λbP=>R' ds (i+1) bP;rw[cc,h5,h5];simp only[h];rfl
def yC(t:bw):right t.a6=right t:=by unfold right bw.a6;simp only[R',bO]
def Sa(ns:List an)(k:Int):ho (ns.map an.a6) k=ho ns k:=by unfold ho;rw[gz];rfl
def Sb(ns:List an)(kind:Int):∀ ks,jd (ns.map an.a6) kind ks=jd ns kind ks
 |[]=>rfl| k::ks=>by rw[jd,jd,Sa,Sb ns kind ks]
def Sc(ns:List an):∀ ds:List an,jx (ns.map an.a6) (ds.map an.a6)=jx ns ds
 |[]=>rfl| d::ds=>by have h:=Sb ns d.k d.ap;rw[cc,jx,jx,Sc ns ds];show(bif !decide (d.k=4) && !decide (d.k=5)then jx ns ds else bif jd (ns.map an.a6) d.k d.ap then jx ns ds else false)=_;rw[h]
def acf(t:bw):normal t.a6=normal t:=by unfold normal;rw[yC];congr 1;exact Sc t.ns t.ns
def Sd:∀ (ds:List an) (i:Nat) (fU:List Int),td i (ds.map an.a6) fU=td i ds fU
 |[],i,fU=>rfl| d::ds,i,fU=>by rw[cc,td,td,Sd ds];rfl
def acg(t:bw):depth t.a6=depth t:=by unfold depth;rw[yC];simp only[bw.a6,Sd,bO]
def ach(t:bw):nk t.a6=nk t:=by unfold nk;rw[yC,acg];rfl
def Ap{α:Type}{z:α}{f g:an->(Int->α)->α}(h:∀ d q,f d.a6 q=g d q):∀ (ds:List an) (aP:List α),fb z f (ds.map an.a6) aP=fb z g ds aP
 |[],aP=>rfl| d::ds,aP=>by rw[cc,fb,fb,h,Ap h ds]
def aci(aF:List Int)(ns:List an)(k:Int):jv aF (ns.map an.a6) k=jv aF ns k:=by unfold jv gM;rw[Ap (g:=z5 aF ns) (λd q=>?_)];show o6 aF d++(rZ (z4 d) (λk=>paren (gN d.k (ho (ns.map an.a6) k)) (q k)) false d.ap++nq d)=_;simp only[Sa];rfl
def acj(aF:List Int)(t:bw):lH aF t.a6=lH aF t:=by unfold lH;rw[yC];have:jv aF t.a6.ns t.a6.bm=jv aF t.ns t.bm:=aci aF t.ns t.bm;rw[this]
def ack(aF:List Int)(d:a2):n8 aF d.a6=n8 aF d:=by unfold n8;have:lH aF d.a6.t=lH aF d.t:=acj aF d.t;rw[this];rfl
def Se(aF:List Int):∀ (ds:List a2) (aP:List UInt8),n9 aF (ds.map a2.a6) aP=n9 aF ds aP
 |[],aP=>rfl| d::ds,aP=>by rw[cc,n9,n9,ack,Se aF ds]
def acm(g:eo):r4 g.a6=r4 g:=by unfold r4 eo.a6;rw[gz];congr 1;refine fy λd _=>?_;show p2 d.t.a6=p2 d.t;unfold p2;rw[yC];rfl
def Sf{q:a2->Bool}(h:∀ d,q d.a6=q d)(ds:List a2):(ds.map a2.a6).all q=ds.all q:=by rw[F3];congr 1;funext d;exact h d
def acn(aF:List Int)(g:eo):n' aF g.a6=n' aF g:=by unfold n';rw[acm];have aa:(g.a6.ds.all λd=>nk d.t)=g.ds.all λd=>nk d.t:=Sf (λd=>ach d.t) g.ds;have ad:n9 aF g.a6.ds []=n9 aF g.ds []:=Se aF g.ds [];rw[aa,ad];rfl
def aco(ds:List a2):nw (ds.map a2.a6)=nw ds:=Sf (q:=λd=>mK d.name&&normal d.t) (λd=>by
 show(mK d.name&&normal d.t.a6)=_;rw[acf]) ds
def Sg:∀ (ds:List a2) (aP:List (ByteArray×Int)) (i:Nat),ko aP i (ds.map a2.a6)=ko aP i ds
 |[],aP,i=>rfl| d::ds,aP,i=>by rw[cc,ko,ko];show(bif (dz d.name aP).isSome then none else ko (aP++[(d.name,(i:Int))]) (i+1) (ds.map a2.a6))=_;rw[Sg ds]
def Sh:∀ (ds:List a2) (i:Nat),oa i (ds.map a2.a6)=(oa i ds).map λp=>(p.1,p.2.a6)
 |[],i=>rfl| d::ds,i=>by rw[cc,oa,oa,Sh ds,dc,gz];show(d.t.ns.map an.a6).map (λn=>(i,n))++_=_;rw[gz];rfl
def acp(aP:List (ByteArray×Int))(ds:List a2):pd aP (ds.map a2.a6)=pd aP ds:=by unfold pd;rw[Sh,F3];rfl
def acq(aF:List Int)(g:eo):eH aF g.a6=eH aF g:=by unfold eH;rw[acn];have aa:nw g.a6.ds=nw g.ds:=aco g.ds;have ad:ko [] 0 g.a6.ds=ko [] 0 g.ds:=Sg g.ds [] 0;have al:∀ aP,pd aP g.a6.ds=pd aP g.ds:=λaP=>acp aP g.ds;rw[aa,ad];simp only[al];rfl
def Si(pl:List (ByteArray×Int))(bn:List aI):∀ (ds:List an) (aP:List aI),dF pl bn (ds.map an.a6) aP=dF pl bn ds aP
 |[],aP=>rfl| d::ds,aP=>by rw[cc,dF,dF,Si pl bn ds];rfl
def Sj:∀ (ds:List a2) (aP:List (ByteArray×Int)) (i:Nat),ma aP i (ds.map a2.a6)=ma aP i ds
 |[],aP,i=>rfl| d::ds,aP,i=>by rw[cc,ma,ma,Sj ds];rfl
def Aq(ds:List a2):bp (ds.map a2.a6)=bp ds:=Sj ds [] 0
def Gq(pl:List (ByteArray×Int))(bn:List aI)(d:a2):hh pl bn d.a6=hh pl bn d:=by unfold hh;have:dF pl bn d.a6.t.ns []=dF pl bn d.t.ns []:=Si pl bn d.t.ns [];rw[this];rfl
def acr{ds:List a2}{l:List aI}(h:iv ds l):iv (ds.map a2.a6) l:=by
 refine⟨by rw[h.len,bO],λi hi=>?_,λm hm au=>?_⟩
 ·have ct:i<ds.length:=by simpa using hi
  rw[Aq,hN,Gq];exact h.fix i ct
 ·refine h.least m (by rw[hm,bO]) λi hi=>?_;have:=au i (by simpa using hi);rwa [Aq,hN,Gq]at this
def hS(l:List an):bw:=⟨l,none,l.length,0,(l.length:Int)-1⟩
def dU(ns:List an):List Int:=ns.flatMap (·.ap)
def gR(l:List Int):Prop:=l.Pairwise (·≠·)
def Ar(s:List Bool)(l:List Int):Prop:=∀ j,s.getD j false=true ↔ ((j:Int)∈l/\j<s.length)
def Sk{i:Nat}:∀ {ks seen:List Int} {s:List Bool},i<=s.length->Ar s seen->gR seen -> ((∃ bP,jt i ks s=some bP) ↔ ((∀ k∈ks,0<=k/\k<i)/\gR (seen++ks)))/\∀ bP,jt i ks s=some bP->bP.length=s.length/\Ar bP (seen++ks)
 |[],seen,s,hi,hm,aj=>by refine⟨⟨λ_=>⟨λk ae=>by(cases ae),by simpa using aj⟩,λ_=>⟨s,rfl⟩⟩,λbP h=>?_⟩;simp only[jt,jl]at h;subst h;exact⟨rfl,by simpa using hm⟩
 |k::ks,seen,s,hi,hm,aj=>by
  unfold jt;cases ah:decide (k<0)||(decide ((i:Int)<=k)||s.getD k.toNat false)with
  |true=>
   refine⟨⟨λ⟨bP,h⟩=>(by cases h),λ⟨aa,ad⟩=>?_⟩,λbP h=>by cases h⟩;exfalso;have al:=aa k (.head _);simp only[jP,hk]at ah;rcases ah with ah | ah | ah;·omega
   ·omega
   ·have:=(hm _).1 ah;rw[tc al.1]at this;exact(pc.1 ad).2.2 k this.1 k (.head _) rfl
  |false=>
   simp only[qN,pM]at ah;obtain⟨b1,cd,fF⟩:=ah;have ae:k.toNat<s.length:=by omega
   have fl:k ∉ seen:=λh=>by have:=(hm k.toNat).2 ⟨by rw[tc (by omega)];exact h,ae⟩;rw[fF]at this;cases this
   have nY:Ar (s.set k.toNat true) (seen++[k]):=λj=>by
    have:=hm j;simp only[cv,kl,uJ,cO,eK]at this |-;by_cases e:k.toNat=j;·subst e;rw[ck rfl,ck ae];simp only[jG,true_iff];exact⟨.inr (by omega),ae⟩
    ·rw[ca e,this];constructor
     ·rintro⟨aa,ad⟩;exact⟨.inl aa,ad⟩
     ·rintro⟨aa | aa,ad⟩
      ·exact⟨aa,ad⟩
      ·omega
   have eJ:gR (seen++[k]):=pc.2 ⟨aj,by simp,λa aY b ah e=>by
    simp only[eK]at ah;subst ah;subst e;exact fl aY⟩
   have aR:=Sk (i:=i) (ks:=ks) (seen:=seen++[k]) (s:=s.set k.toNat true) (by simpa using hi) nY eJ;simp only[b0];rw[fi,p7]at aR;refine⟨aR.1.trans ⟨λ⟨aa,ad⟩=>⟨λx ab=>?_,ad⟩,λ⟨aa,ad⟩=>⟨λx ab=>aa x (.tail _ ab),ad⟩⟩,λbP h=>?_⟩
   ·rcases dW.1 ab with rfl | ab
    ·omega
    ·exact aa x ab
   ·have:=aR.2 bP h;simpa using this
def Sl:∀ {ds:List an} {i:Nat} {seen:List Int} {s:List Bool},i+ds.length<=s.length->Ar s seen->gR seen -> ((∃ bP,h5 i ds s=some bP) ↔ ((∀ j (h:j<ds.length),fits ds[j] ds[j].ap.length=true/\∀ k∈ds[j].ap,0<=k/\k<i+j)/\gR (seen++dU ds)))/\∀ bP,h5 i ds s=some bP->bP.length=s.length/\Ar bP (seen++dU ds)
 |[],i,seen,s,hi,hm,aj=>by refine⟨⟨λ_=>⟨λj ai=>by simp at ai,by simpa[dU]using aj⟩,λ_=>⟨s,rfl⟩⟩,λbP h=>?_⟩;simp only[h5,jl]at h;subst h;exact⟨rfl,by simpa[dU]using hm⟩
 |d::ds,i,seen,s,hi,hm,aj=>by
  unfold h5;have ae:=Sk (i:=i) (ks:=d.ap) (by simp at hi;omega) hm aj;have dN:dU (d::ds)=d.ap++dU ds:=rfl;cases az:fits d d.ap.length with
  |false=>refine⟨⟨λ⟨bP,h⟩=>(by cases h),λ⟨aa,ad⟩=>?_⟩,λbP h=>by cases h⟩;have:=(aa 0 (by simp)).1;simp only[oM]at this;rw[az]at this;cases this
  |true=>
   simp only[bZ];cases aK:jt i d.ap s with
   |none=>
    refine⟨⟨λ⟨bP,h⟩=>(by cases h),λ⟨aa,ad⟩=>?_⟩,λbP h=>by cases h⟩;exfalso;have:∃ bP,jt i d.ap s=some bP:=ae.1.2 ⟨λk ae=>by
     have:=(aa 0 (by simp)).2 k ae;omega,by
     rw[dN,<-fi]at ad;exact(pc.1 ad).1⟩
    obtain⟨bP,h⟩:=this;rw[aK]at h;cases h
   |some s1=>
    obtain⟨acs,db⟩:=ae.2 s1 aK;obtain⟨gA,d1⟩:=ae.1.1 ⟨s1,aK⟩;have aR:=Sl (ds:=ds) (i:=i+1) (seen:=seen++d.ap) (s:=s1) (by simp at hi;omega) db d1;rw[fi,<-dN]at aR;simp only;refine⟨aR.1.trans ⟨λ⟨aa,ad⟩=>⟨λj ai=>?_,ad⟩,λ⟨aa,ad⟩=>⟨λj ai=>?_,ad⟩⟩,λbP h=>?_⟩
    ·cases j with
     |zero=>exact⟨az,λk ae=>by have:=gA k ae;omega⟩| succ j=>have:=aa j (by simpa using ai);refine⟨this.1,λk ae=>?_⟩;have:=this.2 k ae;omega
    ·have:=aa (j+1) (by simpa using ai);refine⟨this.1,λk ae=>?_⟩;have:=this.2 k ae;omega
    ·have:=aR.2 bP h;exact⟨this.1.trans acs,this.2⟩
def acu(n:Nat):Ar (List.replicate n false) []:=λj=>by
 by_cases h:j<n<;>simp[cv,List.getElem?_replicate,h]
structure hj(t:bw):Prop where
 bm:0<=t.bm/\t.bm<t.ns.length
 fits:∀ j (h:j<t.ns.length),fits t.ns[j] t.ns[j].ap.length=true
 ap:∀ j (h:j<t.ns.length),∀ k∈t.ns[j].ap,0<=k/\k<j
 diff:gR (dU t.ns)
 all:∀ j:Nat,j<t.ns.length->((j:Int)∈dU t.ns ↔ (j:Int)≠t.bm)
def iQ:right t=true ↔ hj t:=by
 have h:=Sl (ds:=t.ns) (i:=0) (seen:=[]) (s:=List.replicate t.ns.length false) (by simp) (acu _) (by simp[gR]);simp only[jq,c9,zQ]at h;unfold right;constructor
 ·intro af;simp only[b',hk]at af;obtain⟨gA,kp,oe⟩:=af;split at oe
  ·rename_i s ar;obtain⟨hf,g4⟩:=h.1.1 ⟨s,ar⟩;obtain⟨db,m2⟩:=h.2 s ar;refine⟨⟨gA,kp⟩,λj ai=>(hf j ai).1,λj ai k ae=>(by have:=(hf j ai).2 k ae;omega),g4,λj ai=>?_⟩;have ah:(s.getD j false == decide (((0+j:Nat):Int)=t.bm))=false:=by
    cases ah:(s.getD j false == decide (((0+j:Nat):Int)=t.bm))with
    |false=>rfl| true=>have:=Kq (by omega) ah;rw[this]at oe;cases oe
   rw[c9]at ah;have hm:=m2 j;constructor;·intro ab e;have:=hm.2 ⟨ab,by omega⟩;rw[this,h6 e]at ah;cases ah
   ·intro bs;rw[eU bs]at ah;have:s.getD j false=true:=by
     revert ah;cases s.getD j false<;>simp
    exact(hm.1 this).1
  ·cases oe
 ·intro af;obtain⟨s,ar⟩:=h.1.2 ⟨λj ai=>⟨af.fits j ai,λk ae=>by have:=af.ap j ai k ae;omega⟩,af.diff⟩;obtain⟨db,m2⟩:=h.2 s ar;rw[ar];simp only[b',hk];refine⟨af.bm.1,af.bm.2,Rz λj ai=>?_⟩;rw[c9];have aY:=af.all j (by omega);have hm:=m2 j;by_cases e:(j:Int)=t.bm
  ·have az:s.getD j false=false:=by
    cases ah:s.getD j false with
    |false=>rfl| true=>exact absurd e (aY.1 (hm.1 ah).1)
   rw[az,h6 e];rfl
  ·have:=hm.2 ⟨aY.2 e,by omega⟩;rw[this,eU e];rfl
def hj.node(af:hj t){j:Nat}(ai:j<t.ns.length){k:Int}(ae:k∈(nodeAt t.ns j).ap):0<=k/\k<j:=by rw[gf ai]at ae;exact af.ap j ai k ae
def hj.two(af:hj t){i j:Nat}(hi:i<t.ns.length)(ai:j<t.ns.length)(bs:i≠j){k:Int}(aa:k∈(nodeAt t.ns i).ap)(ad:k∈(nodeAt t.ns j).ap):False:=by
 rw[gf hi]at aa;rw[gf ai]at ad;have:=(Aa.1 af.diff).2;rw[J4]at this;rcases Nat.lt_or_gt_of_ne bs with h | h
 ·exact this i j hi ai h k aa k ad rfl
 ·exact this j i ai hi h k ad k aa rfl
def hj.Sm(af:hj t){j:Nat}(ai:j<t.ns.length):gR (nodeAt t.ns j).ap:=by rw[gf ai];exact(Aa.1 af.diff).1 _ (b9 ai)
def As(ns:List an):Nat->Int->List Int
 |0,_=>[]| f+1,n=>(nodeAt ns n.toNat).ap.flatMap (As ns f)++[n]
def dv(ns:List an)(n:Int):List Int:=As ns (n.toNat+1) n
def qd{α β:Type}{f g:α->List β}:∀ {l:List α},(∀ x∈l,f x=g x)->l.flatMap f=l.flatMap g
 |[],_=>rfl| a::l,h=>by rw[jO,jO,h a (.head _),qd λx ab=>h x (.tail _ ab)]
section
variable{t:bw}(af:hj t)
include af
theorem acv:∀ (f j:Nat),j<t.ns.length->j<f->As t.ns f j=dv t.ns j:=by
 intro f
 induction f using Nat.strongRecOn with
 |_ f aR=>
  intro j ai az
  match f,az,aR with
  |f+1,az,aR=>unfold dv;rw[As,As];congr 1;refine qd λk ae=>?_;obtain⟨ay,aa⟩:=af.node ai ae;obtain⟨k,rfl⟩:=eN ay;have aA:=aR f (by omega) k (by omega) (by omega);have a0:=aR j (by omega) k (by omega) (by omega);exact aA.trans a0.symm
theorem lM{j:Nat}(ai:j<t.ns.length):dv t.ns j=(nodeAt t.ns j).ap.flatMap (dv t.ns)++[(j:Int)]:=by unfold dv;rw[As];congr 1;refine qd λk ae=>?_;obtain⟨ay,aa⟩:=af.node ai ae;obtain⟨k,rfl⟩:=eN ay;exact acv af _ k (by omega) (by omega)
theorem uR:∀ (j:Nat),j<t.ns.length->∀ x∈dv t.ns j,(0<=x/\x<=j)/\(x=j\/∃ y:Nat,(y:Int)∈dv t.ns j/\y<t.ns.length/\x∈(nodeAt t.ns y).ap):=by
 intro j
 induction j using Nat.strongRecOn with
 |_ j aR=>
  intro ai x ab;rw[lM af ai]at ab;rcases cO.1 ab with ab | ab
  ·obtain⟨k,ae,ab⟩:=hg.1 ab;obtain⟨ay,aa⟩:=af.node ai ae;obtain⟨k,rfl⟩:=eN ay;obtain⟨b,c⟩:=aR k (by omega) (by omega) x ab;refine⟨by omega,.inr ?_⟩;rcases c with rfl | ⟨y,aD,Ct,KI⟩
   ·exact⟨j,by rw[lM af ai];simp,ai,ae⟩
   ·exact⟨y,by rw[lM af ai];exact cO.2 (.inl (hg.2 ⟨k,ae,aD⟩)),Ct,KI⟩
  ·simp only[eK]at ab;subst ab;exact⟨by omega,.inl rfl⟩
theorem acw{j:Nat}(ai:j<t.ns.length){a b:Nat}(aY:(a:Int)∈(nodeAt t.ns j).ap)(ah:(b:Int)∈(nodeAt t.ns j).ap)(bs:a≠b):∀ (m:Nat) (x:Int),x∈dv t.ns a->x∈dv t.ns b->t.ns.length-x.toNat<=m->False:=by
 have aa:=af.node ai aY;have ad:=af.node ai ah;intro m
 induction m with
 |zero=>intro x KJ kZ hm;have:=(uR af a (by omega) x KJ).1;omega
 |succ m aR=>
  intro x KJ kZ hm;obtain⟨alI,acx⟩:=uR af a (by omega) x KJ;obtain⟨alJ,Sn⟩:=uR af b (by omega) x kZ;rcases acx with tm | ⟨KK,So,KL,KM⟩
  ·rcases Sn with Gr | ⟨KN,fV,KO,KP⟩
   ·omega
   ·have:=(uR af b (by omega) KN fV).1;subst tm;exact af.two ai KO (by omega) aY KP
  ·rcases Sn with Gr | ⟨KN,fV,KO,KP⟩
   ·have:=(uR af a (by omega) KK So).1;subst Gr;exact af.two ai KL (by omega) ah KM
   ·by_cases e:KK=KN
    ·subst e;have:=af.node KL KM;exact aR KK So fV (by omega)
    ·exact af.two KL KO e KM KP
theorem At:∀ (j:Nat),j<t.ns.length->gR (dv t.ns j):=by
 intro j
 induction j using Nat.strongRecOn with
 |_ j aR=>
  intro ai;rw[lM af ai];have b2:=af.Sm ai;refine pc.2 ⟨Aa.2 ⟨λk ae=>?_,?_⟩,by simp,λx ab y aD=>?_⟩;·obtain⟨ay,aa⟩:=af.node ai ae;obtain⟨k,rfl⟩:=eN ay;exact aR k (by omega) (by omega)
  ·refine b2.imp_of_mem ?_;intro a b aY ah bs x ab y aD e;subst e;obtain⟨ay,aa⟩:=af.node ai aY;obtain⟨ad,al⟩:=af.node ai ah;obtain⟨a,rfl⟩:=eN ay;obtain⟨b,rfl⟩:=eN ad;exact acw af ai aY ah (by intro e;subst e;exact bs rfl) _ x ab aD (cI _)
  ·simp only[eK]at aD;subst aD;obtain⟨k,ae,ab⟩:=hg.1 ab;obtain⟨ay,aa⟩:=af.node ai ae;obtain⟨k,rfl⟩:=eN ay;have:=(uR af k (by omega) x ab).1;omega
def nx(ns:List an)(l:List Int):Prop:=∀ i (h:i<l.length),∀ k∈(nodeAt ns (l[i]).toNat).ap,k∈l.take i
omit af in
theorem nx.append{l m:List Int}(h:nx ns l)(bq:nx ns m):nx ns (l++m):=by
 intro i hi k ae;by_cases av:i<l.length
 ·rw[r7 av]at ae;rw[BU (by omega)];exact h i av k ae
 ·rw[uG (by omega)]at ae;have:=bq (i-l.length) (by simp at hi;omega) k ae;rw[CM,fT (by omega)];exact cO.2 (.inr this)
omit af in
theorem nx.flat{ns:List an}{f:Int->List Int}:∀ {ks:List Int},(∀ k∈ks,nx ns (f k))->nx ns (ks.flatMap f)
 |[],_=>λi h=>by simp at h
 |k::ks,h=>by rw[jO];exact(h k (.head _)).append (nx.flat λx ab=>h x (.tail _ ab))
theorem Sp{j:Nat}(ai:j<t.ns.length):(j:Int)∈dv t.ns j:=by rw[lM af ai];simp
theorem Gs:∀ (j:Nat),j<t.ns.length->nx t.ns (dv t.ns j):=by
 intro j
 induction j using Nat.strongRecOn with
 |_ j aR=>
  intro ai;have ae:∀ k∈(nodeAt t.ns j).ap,∃ q:Nat,k=q/\q<j:=λk ae=>by obtain⟨ay,aa⟩:=af.node ai ae;exact⟨k.toNat,by omega,by omega⟩
  have aa:nx t.ns ((nodeAt t.ns j).ap.flatMap (dv t.ns)):=nx.flat λk hA=>by obtain⟨q,rfl,aK⟩:=ae k hA;exact aR q aK (by omega)
  rw[lM af ai];intro i hi k ny;by_cases av:i<((nodeAt t.ns j).ap.flatMap (dv t.ns)).length;·rw[r7 av]at ny;rw[BU (by omega)];exact aa i av k ny
  ·rw[uG (by omega)]at ny;have e:i-((nodeAt t.ns j).ap.flatMap (dv t.ns)).length=0:=by simp only[cL,ea,gL]at hi;omega
   simp only[e,oM,kx]at ny;rw[CM,fT (by omega)];refine cO.2 (.inl (hg.2 ⟨k,ny,?_⟩));obtain⟨q,rfl,aK⟩:=ae k ny;exact Sp af (by omega)
theorem KQ{j:Nat}(ai:j<t.ns.length):(dv t.ns j).getLast?=some (j:Int):=by rw[lM af ai];simp
theorem Gt:∀ (j:Nat),j<t.ns.length->(dv t.ns j).length=je t.ns j:=by
 intro j
 induction j using Nat.strongRecOn with
 |_ j aR=>
  intro ai;rw[lM af ai,wu (iQ.2 af) ai,<-gf ai];simp only[cL,Ab,ea,gL,fz];have:(nodeAt t.ns j).ap.map (λa=>(dv t.ns a).length)=(nodeAt t.ns j).ap.map (je t.ns):=fy λk ae=>by obtain⟨ay,aa⟩:=af.node ai ae;obtain⟨k,rfl⟩:=eN ay;exact aR k (by omega) (by omega)
  rw[this];omega
theorem Sq:∀ (f:Nat) (todo b:List Int),(∀ k∈todo,0<=k/\k<t.ns.length)->(todo.map λn=>(dv t.ns n).length).sum<=f->uN t.ns f todo b=b++todo.reverse.flatMap (λn=>(dv t.ns n).reverse)
 |0,todo,b,ag,az=>by
  rcases x5 todo with h | ⟨r,p,h⟩;·subst h;simp[uN]
  ·subst h;obtain⟨ay,aa⟩:=ag p (by simp);obtain⟨p,rfl⟩:=eN ay;have:=congrArg List.length (lM af (j:=p) (by omega));simp at az this;have ad:(dv t.ns (p:Int)).length=0:=by rw[az.2];rfl
   omega
 |f+1,todo,b,ag,az=>by
  rcases x5 todo with h | ⟨r,p,h⟩;·subst h;rw[RF];simp
  ·rw[List.concat_eq_append]at h;subst h;obtain⟨ay,aa⟩:=ag p (by simp);obtain⟨p,rfl⟩:=eN ay;have aO:p<t.ns.length:=by omega
   have he:=lM af aO;have av:=congrArg List.length he;simp only[cL,Ab,ea,gL]at av;have jK:∀ k∈r++(nodeAt t.ns p).ap,0<=k/\k<t.ns.length:=λk ae=>by
    rcases cO.1 ae with ae | ae;·exact ag k (by simp[ae])
    ·have:=af.node aO ae;omega
   have pO:((r++(nodeAt t.ns p).ap).map λn=>(dv t.ns n).length).sum<=f:=by simp only[dc,rR,cc,h3,jb,zV]at az |-;omega
   rw[RG,kx,Sq f _ _ jK pO];rw[uH,uH,gK,gK,vS,qZ,he,uH,fi];congr 1;rw[<-fi];congr 1;simp[List.reverse_flatMap];rfl
theorem acy{j:Nat}(ai:j<t.ns.length):(yy t.ns j).reverse=dv t.ns j:=by unfold yy;have aa:=Gt af j ai;have ad:=yx (iQ.2 af) t.ns.length j ai (by omega);rw[Sq af _ _ _ (λk ae=>by simp only[eK]at ae;omega) (by simp;omega)];simp
def iR(rb:List Int)(k:Int):Int:=(rb.idxOf k:Nat)
def kr(ns:List an)(rb:List Int)(b:Int):an:=(nodeAt ns b.toNat).cA ((nodeAt ns b.toNat).ap.map (iR rb))
omit af in
theorem gR.idx{l:List Int}(h:gR l){i:Nat}(hi:i<l.length):l.idxOf l[i]=i:=by
 have aa:=FY (b9 hi);have ad:=FZ aa;have al:=J4.1 h;rcases Nat.lt_trichotomy (l.idxOf l[i]) i with aL | aL | aL
 ·exact absurd ad (al _ _ aa hi aL)
 ·exact aL
 ·exact absurd ad.symm (al _ _ hi aa aL)
omit af in
theorem gR.nodup{l:List Int}(h:gR l){i j:Nat}(hi:i<l.length)(ai:j<l.length)(e:l[i]=l[j]):i=j:=by rw[<-h.idx hi,<-h.idx ai,e]
omit af in
theorem sub_fold{rb:List Int}(aj:gR rb)(aO:nx t.ns rb)(ag:∀ k∈rb,0<=k/\k<t.ns.length):∀ i,i<=rb.length->∃ P:List Int,(rb.take i).foldl (Gi t.ns) (List.replicate t.ns.length 0,[])=(P,(rb.take i).map (kr t.ns rb))/\P.length=t.ns.length/\∀ q (h:q<rb.length),q<i->P.getD rb[q].toNat 0=(q:Int)
 |0,_=>⟨List.replicate t.ns.length 0,rfl,by simp,λq h aK=>by omega⟩
 |i+1,hi=>by
  obtain⟨P,aa,ad,al⟩:=sub_fold aj aO ag i (by omega);have ev:i<rb.length:=by omega
  have alK:=ag _ (b9 ev);have key:∀ q (h:q<rb.length),q<i+1->(P.set rb[i].toNat (i:Nat)).getD rb[q].toNat 0=(q:Int):=λq h aK=>by
   have PF:=ag _ (b9 h);by_cases e:q=i;·subst e;simp[cv,kl,show rb[q].toNat<P.length by omega]
   ·have bs:rb[i].toNat≠rb[q].toNat:=λcM=>e (aj.nodup h ev (by omega));have:=al q h (by omega);simp only[cv,kl]at this |-;rw[ca bs];exact this
  refine⟨P.set rb[i].toNat (i:Nat),?_,by simpa using ad,key⟩;rw[gD ev,q0,aa,dc];simp only[iY,CN,Gi,bO,fu,oA (Nat.le_of_lt ev),cc,h3];have:kr t.ns rb rb[i]=(nodeAt t.ns rb[i].toNat).cA ((nodeAt t.ns rb[i].toNat).ap.map λk=>(P.set rb[i].toNat (i:Nat)).getD k.toNat 0):=by unfold kr;congr 1;refine fy λk ae=>?_;have hm:=aO i ev k ae;obtain⟨q,aK,e⟩:=hz hm;rw[fu]at aK;rw[F0]at e;rw[<-e,key q (by omega) (by omega)];unfold iR;rw[aj.idx]
  rw[this]
theorem yD{j:Nat}(ai:j<t.ns.length):qa t.ns j=(dv t.ns j).map (kr t.ns (dv t.ns j)):=by obtain⟨P,aa,-,-⟩:=sub_fold (At af j ai) (Gs af j ai) (λk ae=>by have:=(uR af j ai k ae).1;omega) (dv t.ns j).length (cI _);rw[Fc]at aa;unfold qa;rw[acy af ai,aa]
theorem KR{j:Nat}(ai:j<t.ns.length):hj (hS (qa t.ns j)):=by
 have aj:=At af j ai;have aO:=Gs af j ai;have hm:=uR af j ai;have nz:=KQ af ai;rw[yD af ai];generalize dv t.ns j=rb at *;have cu:0<rb.length:=by
  cases rb with
  |nil=>simp at nz| cons a l=>simp
 have wz:rb[rb.length-1]=(j:Int):=by rw[J5,dX (by omega)]at nz;exact gO nz
 have aJ:∀ i (h:i<rb.length),rb[i].toNat<t.ns.length:=λi h=>by have:=(hm _ (b9 h)).1;omega
 have lp:∀ i (h:i<rb.length),∀ k∈(nodeAt t.ns rb[i].toNat).ap,k∈rb/\rb.idxOf k<i:=λi h k ae=>by have:=aO i h k ae;refine⟨zR this,?_⟩;obtain⟨q,aK,e⟩:=hz this;rw[fu]at aK;rw[F0]at e;rw[<-e,aj.idx];omega
 have ym:∀ a∈rb,∀ b∈rb,iR rb a=iR rb b->a=b:=λa aY b ah e=>by
  unfold iR at e;have cM:rb.idxOf a=rb.idxOf b:=by omega
  rw[<-FZ (FY aY),<-FZ (FY ah)];simp only[cM]
 have dN:dU (rb.map (kr t.ns rb))=rb.flatMap λb=>(nodeAt t.ns b.toNat).ap.map (iR rb):=by unfold dU;rw[wj];rfl
 have dy:∀ b∈rb,∀ k∈(nodeAt t.ns b.toNat).ap,k∈rb:=λb ah k ae=>by obtain⟨i,hi,rfl⟩:=hz ah;exact(lp i hi k ae).1
 refine⟨by simp[hS];omega,λi hi=>?_,λi hi k ae=>?_,?_,λi hi=>?_⟩
 ·have ct:i<rb.length:=by simpa[hS]using hi
  have az:=af.fits _ (aJ i ct);rw[<-gf (aJ i ct)]at az;simp only[hS,hN];have e:(kr t.ns rb rb[i]).ap.length=(nodeAt t.ns rb[i].toNat).ap.length:=by show((nodeAt t.ns rb[i].toNat).ap.map (iR rb)).length=_;rw[bO]
  rw[e];exact az
 ·have ct:i<rb.length:=by simpa[hS]using hi
  simp only[hS,hN]at ae;obtain⟨q,aK,rfl⟩:=cG.1 ae;have:=(lp i ct q aK).2;unfold iR;omega
 ·show gR (dU (rb.map (kr t.ns rb)));rw[dN];refine Aa.2 ⟨λb ah=>?_,?_⟩
  ·have hn:=(hm b ah).1;refine yp.2 ((af.Sm (j:=b.toNat) (by omega)).imp_of_mem ?_);intro x y ab aD bs e;exact bs (ym x (dy b ah x ab) y (dy b ah y aD) e)
  ·refine aj.imp_of_mem ?_;intro a b aY ah bs x ab y aD e;obtain⟨p,yv,rfl⟩:=cG.1 ab;obtain⟨q,k3,rfl⟩:=cG.1 aD;have aA:=ym p (dy a aY p yv) q (dy b ah q k3) e;subst aA;have wA:=(hm a aY).1;have hn:=(hm b ah).1;exact af.two (i:=a.toNat) (j:=b.toNat) (by omega) (by omega) (by omega) yv k3
 ·have ct:i<rb.length:=by simpa[hS]using hi
  show(i:Int)∈dU (rb.map (kr t.ns rb)) ↔ (i:Int)≠((rb.map (kr t.ns rb)).length:Int)-1;rw[dN,bO];constructor
  ·intro h e;obtain⟨b,ah,h⟩:=hg.1 h;obtain⟨k,ae,a0⟩:=cG.1 h;have acz:=dy b ah k ae;have bY:k=rb[i]:=by
    rw[<-FZ (FY acz)];unfold iR at a0;have:rb.idxOf k=i:=by omega
    simp only[this]
   have dE:i=rb.length-1:=by omega
   subst dE;rw[wz]at bY;have hn:=(hm b ah).1;have:=af.node (j:=b.toNat) (by omega) ae;omega
  ·intro h;obtain⟨ah,au⟩:=hm _ (b9 ct);rcases au with e | ⟨y,aD,Ct,acA⟩
   ·have:=aj.nodup ct (show rb.length-1<rb.length by omega) (e.trans wz.symm);omega
   ·refine hg.2 ⟨y,aD,cG.2 ⟨rb[i],by simpa using acA,?_⟩⟩;unfold iR;rw[aj.idx]
theorem Sr{j:Nat}(ai:j<t.ns.length):0<(qa t.ns j).length/\(qa t.ns j).length<=t.ns.length:=by have aa:=Gt af j ai;have ad:=yx (iQ.2 af) t.ns.length j ai (by omega);have al:=wu (iQ.2 af) ai;rw[yD af ai,bO];omega
theorem Ss{z:α}{F:an->List α->α}(bf:∀ d l,F (d.cA l)=F d){j:Nat}(ai:j<t.ns.length):gM z (λd g=>F d (d.ap.map g)) (qa t.ns j) ((qa t.ns j).length-1:Int)=gM z (λd g=>F d (d.ap.map g)) t.ns j:=by
 have aX:=KR af ai;have aj:=At af j ai;have aO:=Gs af j ai;have hm:=uR af j ai;have nz:=KQ af ai;rw[yD af ai]at aX |-;generalize dv t.ns j=rb at *;have cu:0<rb.length:=by
  cases rb with
  |nil=>simp at nz| cons a l=>simp
 have wz:rb[rb.length-1]=(j:Int):=by rw[J5,dX (by omega)]at nz;exact gO nz
 have St:∀ (d:an) (g cN:Int->α),(∀ k∈d.ap,g k=cN k)->F d (d.ap.map g)=F d (d.ap.map cN):=λd g cN h=>by rw[fy h]
 have key:∀ i (h:i<rb.length),gM z (λd g=>F d (d.ap.map g)) (rb.map (kr t.ns rb)) i=gM z (λd g=>F d (d.ap.map g)) t.ns rb[i]:=by
  intro i
  induction i using Nat.strongRecOn with
  |_ i aR=>
   intro h;have ah:=(hm _ (b9 h)).1;have aA:=ux (z:=z) (f:=λd g=>F d (d.ap.map g)) St (iQ.2 aX) (j:=i) (by simpa[hS]using h);have a0:=ux (z:=z) (f:=λd g=>F d (d.ap.map g)) St (iQ.2 af) (j:=rb[i].toNat) (by omega);have bY:((rb[i].toNat:Nat):Int)=rb[i]:=by omega
   rw[bY]at a0;rw[a0,<-gf (show rb[i].toNat<t.ns.length by omega)];refine aA.trans ?_;simp only[hS,hN];show F (kr t.ns rb rb[i]) (((nodeAt t.ns rb[i].toNat).ap.map (iR rb)).map _)=_;unfold kr;rw[bf,gz];congr 1;refine fy λk ae=>?_;have nY:=aO i h k ae;obtain⟨q,aK,e⟩:=hz nY;rw[fu]at aK;rw[F0]at e;have:=aR q (by omega) (by omega);simp only[Function.comp];rw[<-e];unfold iR;rw[aj.idx];exact this
 rw[bO];have:=key (rb.length-1) (by omega);rw[wz]at this;rw[<-this];congr 1;omega
end
def Gu(x:BitVec 64):BitVec.ofInt 64 (x.toNat:Int)=x:=by rw[BitVec.ofInt_natCast,BitVec.ofNat_toNat,BitVec.setWidth_eq]
def Su(x:BitVec 64):IntKind.u64.wrap (x.toNat:Int)=(x.toNat:Int):=by have:=x.isLt;unfold IntKind.wrap;simp only[IntKind.bits,IntKind.signed];simp;omega
def acB{x y:BitVec 64}:((x.toNat:Int) == (y.toNat:Int))=decide (x=y):=by rw[rq];simp[BitVec.toNat_eq];omega
section
section
end
end
def Sv{α:Type}{p q:α->Bool}:∀ {l:List α},(∀ x∈l,p x=true->q x=true)->l.countP q<=l.countP p->∀ x∈l,q x=true->p x=true
 |[],_,_,x,ab,_=>by cases ab
 |y::l,h,bg,x,ab,aK=>by
  have hm:=List.countP_mono_left (p:=p) (q:=q) (l:=l) (λx ab=>h x (.tail _ ab));rw[List.countP_cons,List.countP_cons]at bg;have aD:=h y (.head _);have key:(q y=true->p y=true)/\l.countP q<=l.countP p:=by cases aO:p y<;>cases alL:q y<;>simp_all<;>omega
  rcases dW.1 ab with rfl | ab;·exact key.1 aK
  ·exact Sv (λx ab=>h x (.tail _ ab)) key.2 x ab aK
def Da(x:BitVec 64):Nat:=(List.range 64).countP λi=>!x.getLsbD i
def acC{x y:BitVec 64}(h:x &&& y=x):Da y<=Da x/\(Da x<=Da y->x=y):=by
 have ah:∀ i,x.getLsbD i=true->y.getLsbD i=true:=λi ab=>by have:=congrArg (λw:BitVec 64=>w.getLsbD i) h;simp only[J',ab,n3]at this;exact this
 have aO:∀ i∈List.range 64,(!y.getLsbD i)=true->(!x.getLsbD i)=true:=λi _ hi=>by
  have aa:=ah i;cases ab:x.getLsbD i with
  |false=>rfl| true=>rw[aa ab]at hi;cases hi
 refine⟨List.countP_mono_left aO,λbg=>?_⟩;have:=Sv aO bg;apply J7;intro i hi;have aa:=ah i;have ad:=this i (kb.2 hi);cases ab:x.getLsbD i<;>cases aD:y.getLsbD i<;>simp_all
structure sb(t:bw)(k:Int)(bj:bw):Prop where
 a6:bj.ns.map an.a6=qa t.ns k
 bm:bj.bm=(bj.ns.length:Int)-1
def KS(af:right t=true){j:Nat}(ai:j<t.ns.length)(h:sb t j bj):right bj=true:=by
 have aa:=iQ.2 (KR (iQ.1 af) ai);have av:=congrArg List.length h.a6;rw[bO]at av;have ad:right bj.a6=right (hS (qa t.ns j)):=by unfold right bw.a6 hS;simp only[h.a6,h.bm,av]
 rw[yC]at ad;rw[ad,aa]
def KT(af:right t=true){j:Nat}(ai:j<t.ns.length)(h:sb t j bj):bj.ns.length=je t.ns j:=by have av:=congrArg List.length h.a6;rw[bO,yD (iQ.1 af) ai,bO,Gt (iQ.1 af) j ai]at av;exact av
def iw:List (aI×List Nat)->List Nat
 |[]=>[]| x::xs=>x.2++bif x.1.z then iw xs else []
def iS(pl:List (ByteArray×Int))(d:an)(xs:List (aI×List Nat)):List Nat:=
 bif decide (d.k=3)then [((dz d.t pl).getD 0).toNat]else
 bif decide (d.k=4)then iw xs else
 bif decide (d.k=6)&&decide (d.hi=0)then []else xs.flatMap (·.2)
def og(pl:List (ByteArray×Int))(F:List aI)(d:an)(xs:List (aI×List Nat)):aI×List Nat:=
 (fH d (xs.map (·.1)++bif decide (d.k=3)then [F.getD ((dz d.t pl).getD 0).toNat bK]else []),iS pl d xs)
def ff(pl:List (ByteArray×Int))(F:List aI)(ns:List an)(j:Int):aI×List Nat:=gM (bK,[]) (λd g=>og pl F d (d.ap.map g)) ns j
def KU{F:List aI}(af:right t=true){j:Nat}(ai:j<t.ns.length):ff pl F t.ns j=og pl F t.ns[j] (t.ns[j].ap.map (ff pl F t.ns)):=
 ux (λd g cN h=>by rw[fy h]) af ai
def acD(pl:List (ByteArray×Int))(F:List aI)(ns:List an)(j:Int):ff pl F (ns.map an.a6) j=ff pl F ns j:=by unfold ff gM;rw[Ap (f:=λd g=>og pl F d (d.ap.map g)) (g:=λd g=>og pl F d (d.ap.map g)) (λd q=>rfl)]
def Sw(aP:List (aI×List Nat))(i:Nat):(aP.getD i (bK,[])).1=(aP.map (·.1)).getD i bK:=by
 simp only[cv,mr];cases aP[i]?<;>rfl
def Sx(pl:List (ByteArray×Int))(F:List aI):∀ (ds:List an) (aP:List (aI×List Nat)),(fb (bK,[]) (λd g=>og pl F d (d.ap.map g)) ds aP).map (·.1)=dF pl F ds (aP.map (·.1))
 |[],aP=>rfl
 |d::ds,aP=>by
  have aA:(og pl F d (d.ap.map λk=>aP.getD k.toNat (bK,[]))).1=fH d (qb pl F (aP.map (·.1)) d):=by unfold og qb;simp only[gz,Function.comp_def,Sw]
  have aa:=Sx pl F ds (aP++[og pl F d (d.ap.map λk=>aP.getD k.toNat (bK,[]))]);rw[dc,cc,h3,aA]at aa;rw[fb,aa,dF]
def KV(pl:List (ByteArray×Int))(F:List aI)(ns:List an)(j:Int):(ff pl F ns j).1=(dF pl F ns []).getD j.toNat bK:=by have h:=Sx pl F ns [];unfold ff gM;rw[Sw,h];rfl
abbrev dm:=BitVec 64
def j1(k:Nat):dm:=1#64 <<< k
def Gv{k i:Nat}(hi:i<64):(j1 k).getLsbD i=decide (i=k):=by
 unfold j1;rw[BitVec.getLsbD_shiftLeft];simp only[hi,F4,n3];by_cases h:i<k
 ·have bs:¬ i=k:=by omega
  simp[h,bs]
 ·simp only[h,decide_false,Bool.not_false,n3];by_cases e:i=k
  ·subst e;simp
  ·rw[eU e];have ad:0<i-k:=by omega
   rw[BitVec.getLsbD_one];simp;omega
def acE(l:List Nat):∀ (w:dm) {i:Nat},i<64->(l.foldl (λw k=>w ||| j1 k) w).getLsbD i=(w.getLsbD i||l.contains i):=by
 induction l with
 |nil=>intro w i hi;simp| cons k l aR=>intro w i hi;rw[iY,aR _ hi,yq,Gv hi,List.contains_cons,Bool.or_assoc];rfl
def k4(m:List dm):Nat->Nat->dm->dm
 |_,0,w=>w| k,f+1,w=>k4 m (k+1) f (bif w.getLsbD k then w ||| m.getD k 0 else w)
def ph(m:List dm):List dm:=(List.range 64).map λi=>k4 m 0 64 (m.getD i 0)
inductive oh(m:List dm):Nat->Nat->Prop
 |one{i k}(ae:k<64)(h:(m.getD i 0).getLsbD k=true):oh m i k| step {i j k} (h:(m.getD i 0).getLsbD j=true) (ai:j<64) (t:oh m j k):oh m i k
def oh.trans{m:List dm}{i j k:Nat}(h:oh m i j)(bq:oh m j k):oh m i k:=by
 induction h with
 |one ae h=>exact .step h ae bq| step h ai t aR=>exact .step h ai (aR bq)
def ix(x y:dm):Prop:=∀ i,i<64->x.getLsbD i=true->y.getLsbD i=true
def ix.refl(x:dm):ix x x:=λ_ _ h=>h
def ix.trans{x y z:dm}(h:ix x y)(bq:ix y z):ix x z:=λi hi ab=>bq i hi (h i hi ab)
def ix.or(x y:dm):ix x (x ||| y):=λi hi h=>by rw[yq,h];rfl
def ix.or'(x y:dm):ix y (x ||| y):=λi hi h=>by rw[yq,h,Bool.or_true]
def ix.acF{x y:dm}(h:ix x y)(bq:ix y x):x=y:=J7 λi hi=>by
 have aa:=h i hi;have ad:=bq i hi;cases ab:x.getLsbD i<;>cases aD:y.getLsbD i<;>simp_all
def ix.and{x y:dm}(h:ix x y):x &&& y=x:=J7 λi hi=>by
 have aa:=h i hi;rw[J'];cases ab:x.getLsbD i<;>simp_all
def Db(m:List dm):∀ (f k:Nat) (w:dm),ix w (k4 m k f w)
 |0,k,w=>ix.refl w
 |f+1,k,w=>by
  rw[k4];cases w.getLsbD k with
  |true=>exact(ix.or _ _).trans (Db m f (k+1) _)| false=>exact Db m f (k+1) _
def KW{m:List dm}{P:Nat->Prop}(hm:∀ j,P j->∀ x,x<64->(m.getD j 0).getLsbD x=true->P x):∀ (f k:Nat) (w:dm),k+f<=64->(∀ x,x<64->w.getLsbD x=true->P x)->∀ x,x<64->(k4 m k f w).getLsbD x=true->P x
 |0,k,w,_,hw=>hw
 |f+1,k,w,ae,hw=>by
  rw[k4];cases ah:w.getLsbD k with
  |true=>
   refine KW hm f (k+1) _ (by omega) λx ab h=>?_;rw[bZ,yq,jP]at h;rcases h with h | h;·exact hw x ab h
   ·exact hm k (hw k (by omega) ah) x ab h
  |false=>exact KW hm f (k+1) _ (by omega) hw
def KX{m:List dm}:∀ (f k:Nat) {w:dm},k4 m k f w=w->∀ j,k<=j->j<k+f->w.getLsbD j=true->ix (m.getD j 0) w
 |0,k,w,_,j,aa,ad,_=>by omega
 |f+1,k,w,h,j,aa,ad,ai=>by
  rw[k4]at h;cases ah:w.getLsbD k with
  |true=>
   rw[ah,bZ]at h;have e:w ||| m.getD k 0=w:=by refine ix.acF ?_ (ix.or _ _);have:=Db m f (k+1) (w ||| m.getD k 0);rwa [h]at this
   by_cases KY:j=k;·subst KY;have:=ix.or' w (m.getD j 0);rwa [e]at this
   ·rw[e]at h;exact KX f (k+1) h j (by omega) (by omega) ai
  |false=>
   rw[ah,b0]at h;by_cases KY:j=k;·subst KY;rw[ah]at ai;cases ai
   ·exact KX f (k+1) h j (by omega) (by omega) ai
def Sy(m:List dm):(ph m).length=64:=by simp[ph]
def Gw(m:List dm){i:Nat}(h:i<64):(ph m).getD i 0=k4 m 0 64 (m.getD i 0):=by simp[ph,cv,h]
structure wB(j2 m:List dm):Prop where
 len:m.length=64
 le:∀ i,i<64->ix (j2.getD i 0) (m.getD i 0)
 ok:∀ i,i<64->∀ k,k<64->(m.getD i 0).getLsbD k=true->oh j2 i k
def wB.start{j2:List dm}(h:j2.length=64):wB j2 j2:=⟨h,λi _=>ix.refl _,λi _ k ae ah=>.one ae ah⟩
def wB.next{j2 m:List dm}(h:wB j2 m):wB j2 (ph m):=by
 refine⟨Sy m,λi hi=>?_,λi hi k ae ah=>?_⟩
 ·rw[Gw m hi];exact(h.le i hi).trans (Db m 64 0 _)
 ·rw[Gw m hi]at ah;refine KW (P:=λx=>x<64/\oh j2 i x) (λj ai x ab ah=>⟨ab,ai.2.trans (h.ok j ai.1 x ab ah)⟩) 64 0 _ (cI _) (λx ab ah=>⟨ab,h.ok i hi x ab ah⟩) k ae ah |>.2
def wB.done{j2 m:List dm}(h:wB j2 m)(az:ph m=m){i k:Nat}(hi:i<64)(ae:k<64):(m.getD i 0).getLsbD k=true ↔ oh j2 i k:=by
 refine⟨h.ok i hi k ae,λau=>?_⟩;have ez:∀ i,i<64->∀ j,j<64->(m.getD i 0).getLsbD j=true->ix (m.getD j 0) (m.getD i 0):=λi hi j ai ah=>by have:=Gw m hi;rw[az]at this;exact KX 64 0 this.symm j (dO _) (by omega) ah
 revert hi
 induction au with
 |one hA ah=>exact λhi=>h.le _ hi _ hA ah
 |step ah ai t aR=>exact λhi=>ez _ hi _ ai (h.le _ hi _ ai ah) _ ae (aR ae ai)
def wC(m:List dm):Nat:=(m.map Da).sum
def Sz:∀ {m n:List dm},m.length=n.length->(∀ i,i<m.length->ix (m.getD i 0) (n.getD i 0))->wC n<=wC m/\(wC m<=wC n->m=n)
 |[],[],_,_=>⟨cI _,λ_=>rfl⟩| [],_::_,h,_=>by simp at h
 |_::_,[],h,_=>by simp at h
 |a::m,b::n,h,ar=>by
  have ay:ix a b:=by simpa using ar 0 (by simp)
  obtain⟨aa,ad⟩:=acC ay.and;obtain⟨t1,t2⟩:=Sz (m:=m) (n:=n) (by simpa using h) λi hi=>by simpa using ar (i+1) (by simpa using hi)
  simp only[wC,cc,jb]at t1 t2 |-;refine⟨by omega,λbg=>?_⟩;rw[ad (by omega),t2 (by omega)]
def acG{m:List dm}(av:m.length=64)(h:ph m≠m):wC (ph m)<wC m:=by
 have ar:=Sz (m:=m) (n:=ph m) (by rw[av,Sy]) λi hi=>by rw[Gw m (by omega)];exact Db m 64 0 _
 refine Nat.lt_of_le_of_ne ar.1 λe=>h (ar.2 (by omega)).symm
def KZ(m:List dm):dm:=(List.range 64).foldl (λw i=>w ||| ((m.getD i 0) &&& j1 i)) 0
def SA(m:List dm):∀ (l:List Nat) (w:dm) {i:Nat},i<64->(∀ k∈l,k<64)->(l.foldl (λw i=>w ||| ((m.getD i 0) &&& j1 i)) w).getLsbD i=(w.getLsbD i||(l.contains i&&(m.getD i 0).getLsbD i))
 |[],w,i,hi,_=>by simp
 |k::l,w,i,hi,av=>by
  rw[iY,SA m l _ hi λk ae=>av k (.tail _ ae),yq,J',Gv hi,List.contains_cons];by_cases e:i=k
  ·subst e;simp;cases w.getLsbD i<;>cases(m.getD i 0).getLsbD i<;>simp
  ·have cM:(i == k)=false:=by simpa using e
   rw[eU e,cM];simp
def acH(m:List dm){i:Nat}(hi:i<64):(KZ m).getLsbD i=(m.getD i 0).getLsbD i:=by
 unfold KZ;rw[SA m _ _ hi λk ae=>kb.1 ae];have:(List.range 64).contains i=true:=by simpa using hi
 rw[this];simp
def bitsOf(w:dm)(n:Nat):List Nat:=(List.range n).filter λi=>w.getLsbD i
def SB(w:dm)(n:Nat):bitsOf w (n+1)=bitsOf w n++(bif w.getLsbD n then [n]else []):=by
 unfold bitsOf;rw[F1,CL];cases h:w.getLsbD n<;>simp[h]
def acI(w:dm)(n:Nat):(bitsOf w n).length<=n:=by unfold bitsOf;have:=BW (λi=>w.getLsbD i) (List.range n);simpa using this
section
variable{X:cB}{o:Oper}{F:Fr}{C:dp}{I:aM}{M:List aE}{K:fD}
def br.acJ(aG:cw X.P X.E)(aC:o.op=.convert src dst x)(aj:∀ d,o.dst=some d->d<X.n)
 (aw:X.E src=some c8) (dQ:c8.bE=.slice e) (he:X.E e=some aB) (kF:aB.bE=.int .u8) (nj:X.E dst=some CO) (e2:CO.bE=.string)
  {aV:Addr} {n:Nat} {l:List UInt8} (ab:bt F x=.val (.slice (some aV) n c)) (aJ:l.length=n) (bB:c7 I M aV n (l.map λb=>.int .u8 b.toNat))
  (h:K (put o.dst (.val (.string ⟨l.toArray⟩)) F) C I M):br X o F C I M K:=by
 subst aJ;refine⟨λa w Q ⟨β,aX⟩=>?_⟩;obtain⟨ar,cs,T,ak,ae,ag,av⟩:=bB;have ax:=ae.heap aX.holds;obtain⟨d,e0,eF⟩:=(aG _ _ aw).eW;have aa:d=.slice e:=by rw[dQ]at eF;cases d<;>simp_all[eR]
 subst aa;obtain⟨d2,K0,p3⟩:=(aG _ _ he).eW;have ad:d2=.int .u8:=by rw[kF]at p3;cases d2<;>simp_all[eR]
 subst ad;obtain⟨d3,K1,Ga⟩:=(aG _ _ nj).eW;have al:d3=.string:=by rw[e2]at Ga;cases d3<;>simp_all[eR]
 subst al;have au:∀ j (ai:j<l.length),w.cell? (aV.add j)=some (.int .u8 (l[j].toNat:Int)):=by
  intro j ai;rw[dY aV ar,sP ax];have jL:(l.map λb=>Value.int .u8 b.toNat)[j]?=some (.int .u8 (l[j].toNat:Int)):=by simp[ai]
  rw[<-ag,j',ck ai,na]at jL;simpa using jL
 have ex:=cS aX.ak ab;refine sQ aX aj (by rw[aC];simp) ?_ h;unfold execOp;simp only[aC,bV,cH,ex,run_convert_bytes_back w src dst e aV c l e0 K0 K1 au,bN]
end
section
variable{X:cB}{F:Fr}{C:dp}{I:aM}{M:List aE}{o:Oper}{K:fD}
def br.acK(aG:cw X.P X.E)(aC:o.op=.convert src dst x)(aj:∀ d,o.dst=some d->d<X.n)
 (aw:X.E src=some c8) (dQ:c8.bE=.slice e) (he:X.E e=some aB) (kF:aB.bE=.int .u8) (nj:X.E dst=some CO) (e2:CO.bE=.string)
 (ab:bt F x=.val (.slice none 0 c))
  (h:K (put o.dst (.val (.string ⟨#[]⟩)) F) C I M):br X o F C I M K:=by
 refine⟨λa w Q ⟨β,aX⟩=>?_⟩;obtain⟨d,e0,eF⟩:=(aG _ _ aw).eW;have aa:d=.slice e:=by rw[dQ]at eF;cases d<;>simp_all[eR]
 subst aa;obtain⟨d2,K0,p3⟩:=(aG _ _ he).eW;have ad:d2=.int .u8:=by rw[kF]at p3;cases d2<;>simp_all[eR]
 subst ad;obtain⟨d3,K1,Ga⟩:=(aG _ _ nj).eW;have al:d3=.string:=by rw[e2]at Ga;cases d3<;>simp_all[eR]
 subst al;have ex:=cS aX.ak ab;refine sQ aX aj (by rw[aC];simp) ?_ h;unfold execOp;have eT:(convert src dst (.slice none 0 c)).run X.P w=.ok (.string ⟨#[]⟩) w:=by rw[run_convert_bytes_string w src dst e none 0 c e0 K0 K1];rfl
 simp only[aC,bV,cH,ex,eT,bN]
end
def bd.whole(post:Value->aM->List aE->Prop)(ar:Spec P f args I M post)(k:∀ v I' M',(∀ b o,I b=some o->I' b=some o)->post v I' M'->K v I' M'):bd foot P f args I M K:=
 .mk M [] post (by simp) ar λv I' M' aa ad=>by rw[ee];exact k v I' M' aa ad
def fv.whole{soft:Bool}(post:Value->aM->List aE->Prop)(ar:Spec P f args I M post)(oP:∀ v I' M',post v I' M'->∀ x∈M,x∈M')(k:∀ v I' M',(∀ b o,I b=some o->I' b=some o)->post v I' M'->K v I' M'):fv soft foot P f args I M K:=
 .mD M [] post (by simp) ar oP λv I' M' aa ad=>by rw[ee];exact k v I' M' aa ad
section
variable{X:cB}{β:Nat->Nat}{a:Act}{w:World}{F:Fr}{C:dp}{I:aM}{M:List aE}{o:Oper}{K:fD}
def hY.tn{I:aM}{M M':List aE}(h:M=M'):hY foot I M I M':=by subst h;exact .refl
def br.hs(h:br X o F C I M λF C I M=>∃ I' M',hY X.foot I M I' M'/\K F C I' M'):br X o F C I M K:=by obtain⟨h⟩:=h;refine⟨λa w Q aX=>rs ?_ (h a w Q aX)⟩;rintro bF w'⟨F',C',I',M',⟨β,af⟩,eE,dB,hw,ae⟩;exact⟨F',C',eE,dB,⟨β,af.hs hw⟩,ae⟩
def br.lN(aG:cw X.P X.E){s:Operand}{t:Nat}(aC:o.op=.call { callee:=.builtin .append,args:=#[s,x],argTypes:=#[t,t] })(aj:∀ d,o.dst=some d->d<X.n)
 (aw:X.E t=some c8) (dQ:c8.bE=.slice e) (he:X.E e=some aB)
  (os:aU) (bo:os.ok aB.size xs) (ar:bt F s=.val os.val)
  {cz:Nat} (ab:bt F x=.val (.slice (some ⟨cz,0,none⟩) 1 c')) (av:cs.length=aB.size) (aa:fN cs=true)
  (a5 post:List aE) (a3:M=⟨cz,.cells cs.toArray e (0,0)⟩::(a5++(os.aq e++post))) (b1:os.n+1<=9223372036854775807) (cd:(os.n+1)*aB.bytes<=140737488355328)
  (k:∀ bD:aU,bD.n=os.n+1->(∀ g,bD.a=some g->I g=none)->bD.ok aB.size (xs++cs)->K (put o.dst (.val bD.val) F) C I (a5++(bD.aq e++post))):br X o F C I M K:=by
 refine .hs (.PX aG aC aj aw dQ he os bo ar (m:=1) (cq:=cs) ab (by decide) ?_ aa (Mr:=⟨cz,.cells cs.toArray e (0,0)⟩::(a5++post)) ?_ (by unfold maxLen;exact b1) cd ?_)
 ·rw[oO];refine⟨rfl,_,_,_,.inr ⟨⟨cz,.cells cs.toArray e (0,0)⟩,by rw[a3];exact .head _,rfl,rfl⟩,?_,av⟩;simp only[xV];exact fT (by omega)
 ·rw[a3];have ad:(⟨cz,.cells cs.toArray e (0,0)⟩::(a5++(os.aq e++post)):List aE).Perm (⟨cz,.cells cs.toArray e (0,0)⟩::(os.aq e++(a5++post))):=.cons _ (CK _ _ _);exact ad.trans nu.symm
 ·intro g c aS bC hf g4 jY lE;refine⟨I,a5++((⟨some g,os.n+1,c,aS⟩:aU).aq e++post),.sub (M1:=⟨g,.cells aS.toArray e (0,0)⟩::(a5++post)) (.cons_cons _ (.cons _ (.refl _))) (.perm ?_ .refl),k ⟨some g,os.n+1,c,aS⟩ rfl (λcN ax=>by cases ax;exact bC) ⟨?_,(λh=>by cases h),λcN ax=>?_⟩⟩
  ·exact nu.symm
  ·rw[cL,bo.len,av,ke,oO]
  ·cases ax;exact⟨hf,g4,jY,lE⟩
def br.Au(aG:cw X.P X.E){s:Operand}{t:Nat}(aC:o.op=.call { callee:=.builtin .append,args:=#[s,x],argTypes:=#[t,t] })(aj:∀ d,o.dst=some d->d<X.n)
 (aw:X.E t=some c8) (dQ:c8.bE=.slice e) (he:X.E e=some aB)
  (os:aU) (bo:os.ok aB.size xs) (ar:bt F s=.val os.val)
  {sa:Option Addr} {m:Nat} {cq:List Value} (ab:bt F x=.val (.slice sa m c')) (av:cq.length=m*aB.size) (aJ:0<m->∃ aV,sa=some aV/\c7 I M aV (m*aB.size) cq) (aa:fN cq=true)
  (a5 post:List aE) (a3:M=a5++(os.aq e++post)) (b1:os.n+m<=9223372036854775807) (cd:(os.n+m)*aB.bytes<=140737488355328)
  (k:∀ bD:aU,bD.n=os.n+m->(0<m->∀ g,bD.a=some g->I g=none)->bD.ok aB.size (xs++cq)->K (put o.dst (.val bD.val) F) C I (a5++(bD.aq e++post))):br X o F C I M K:=by
 by_cases ay:m=0
 ·subst ay;have lx:cq=[]:=im (by simpa using av);subst lx;refine .JD aG aC aj aw dQ aw (λk=>by rw[dQ];simp) he (sa:=os.a.map λg=>⟨g,0,none⟩) (n:=os.n) (c:=os.c) ar ?_ ab (.inl ⟨_,_,rfl⟩) ?_
  ·cases aY:os.a with
   |none=>obtain⟨hf,g4⟩:=bo.nil aY;omega
   |some g=>exact(bo.cap g aY).2.1
  ·have:=k os rfl (λh=>by omega) (by rw[ee];exact bo);rw[a3];exact this
 obtain⟨aV,rfl,bB⟩:=aJ (by omega);refine .hs (.PX aG aC aj aw dQ he os bo ar (m:=m) (cq:=cq) ab (by omega) bB aa (Mr:=a5++post) ?_ (by unfold maxLen;exact b1) cd ?_)
 ·rw[a3];exact(CK _ _ _)
 ·intro g c aS bC hf g4 jY lE;refine⟨I,a5++((⟨some g,os.n+m,c,aS⟩:aU).aq e++post),.perm ?_ .refl,k ⟨some g,os.n+m,c,aS⟩ rfl (λ_ cN ax=>by cases ax;exact bC) ⟨?_,(λh=>by cases h),λcN ax=>?_⟩⟩
  ·exact nu.symm
  ·rw[cL,bo.len,av,ke]
  ·cases ax;exact⟨hf,g4,jY,lE⟩
end
end Go.V
